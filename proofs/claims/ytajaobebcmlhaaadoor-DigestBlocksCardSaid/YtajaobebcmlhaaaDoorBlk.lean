/-
  The law DigestBlocks: walked. Condition: the words of the rounds lie where the program has them; the list is one of int's.
-/
import Derived.Test.YtajaobebcmlhaaaDoorStays
import Derived.Test.YtajaobebcmlhaaaDoorWhole
namespace Go.Proofs.YtajaobebcmlhaaaDoor.Pr
open Go.RowKit Go.Shelf Go.Proofs.YtajaobebcmlhaaaDoor.XB Go.Proofs.Sha Go.Proofs.YtajaobebcmlhaaaDoorW.PrintWords
attribute [local go_sem] Oper.semAt_some
set_option linter.unusedVariables false
set_option linter.unusedSimpArgs false
/-- The bytes of a raw number's block. -/
def blkL (r : Int) (n : Nat) : List UInt8 := (List.range n).map fun (k : Nat) => UInt8.ofNat (pickN r 251 + (k : Int) * (k : Int)).toNat
theorem blkL_len (r : Int) (n : Nat) : (blkL r n).length = n := by simp [blkL]
theorem blkL_succ (r : Int) (n : Nat) : blkL r (n + 1) = blkL r n ++ [UInt8.ofNat (pickN r 251 + (n : Int) * n).toNat] := by simp [blkL, List.range_succ]
theorem brow_put {X Y : World} {base g : Nat} {e : TypeId} {v : Value} {l : List UInt8} (h : BRow X base e v l) (hg : Gb g X Y) (hlt : g < base) : BRow Y base e v l :=
  h.kept hg (by
    cases hv : v.ownBlock with
    | none => exact .inl rfl
    | some k => exact .inr (fun e' => by cases e'; have := (h.ge _ hv).1; omega))
theorem s8c_same (v v' : S8) : (s8c v).size = (s8c v').size := rfl
def txt (zs : List Int) : Nat → ByteArray
  | 0 => ByteArray.empty
  | n + 1 => txt zs n ++ ⟨(blkL (rd zs n) 64).toArray⟩
theorem blk_size (r : Int) : (⟨(blkL r 64).toArray⟩ : ByteArray).size = 64 := blkL_len r 64
theorem txt_size (zs : List Int) : ∀ n, (txt zs n).size = 64 * n
  | 0 => rfl
  | n + 1 => by rw [txt, ByteArray.size_append, txt_size zs n, blk_size]; omega
theorem txt_all (h : S8) (zs : List Int) (n : Nat) : all h (txt zs (n + 1)) = comp (all h (txt zs n)) ⟨(blkL (rd zs n) 64).toArray⟩ :=
  all_app h _ _ n (txt_size zs n) (blk_size _)
theorem txt_add (zs : List Int) (n : Nat) (hn : n ≤ 6) : addH newH (txt zs n) = (⟨all start8 (txt zs n), ByteArray.empty, ((64 * n : Nat) : Int)⟩, 0) := by
  have hs := txt_size zs n
  obtain ⟨e, _⟩ := addH_right newH (txt zs n) rfl (by rw [hs]; show ¬ ((1048576 : Int) - 0 < _); omega)
  rw [e, hs]
  have e1 : newH.rest ++ txt zs n = txt zs n := ByteArray.empty_append
  rw [e1]
  have e2 : tailOf (txt zs n) = ByteArray.empty := by
    have := tail_size (txt zs n)
    rw [hs] at this
    exact ByteArray.size_eq_zero_iff.1 (by omega)
  rw [e2]
  show ((⟨all start8 (txt zs n), ByteArray.empty, (0 : Int) + ((64 * n : Nat) : Int)⟩ : Hs), (0 : Int)) = _
  rw [Int.zero_add]
set_option maxRecDepth 100000 in
set_option maxHeartbeats 4000000 in
theorem wholes_calls (a : Option Addr) (zs : List Int) (cap : Nat) (w : World) (hG : Tbl w) (hr : ReadsInt w .i64 a zs.length zs) (hw : ∀ x ∈ zs, (Lit.int .i64 x).wf = true) (hm : zs.length ≤ maxLen) :
    Calls Tryd.prog 6 #[.slice a zs.length cap] w fun e w' => e = .returned (.bool true) ∧ Below w.heap.size w w' := by
  have HG := Lib.hid hG
  have HR := Lib.hid hr
  clear hG hr
  go_enter Tryd.func6, Tryd.ntmps6
  go_wp2_with (first
    | (go_at_call 14; with_reducible refine (awake_calls _ HG.out).mono ?_; rintro e W1 ⟨rfl, hb⟩; have HB1 := Lib.hid hb; clear hb)
    | (go_at_call 18; with_reducible refine (new_calls _).mono ?_; rintro e W2 ⟨rfl, hb⟩; have HB2 := Lib.hid (HB1.out.trans (hb.mono HB1.out.size)); clear hb)
    | (with_reducible refine wpList_store_row rfl 25 (.tmp 4) (.tmp 15) rfl W2.heap.size (hsc newH) rfl (by first | rfl | kernel_rfl) 25 _ (heap_alloc_new W2 _) (by kernel_rfl) (by first | rfl | kernel_rfl) (by first | rfl | kernel_rfl) ?_; generalize hX : World.setRow _ W2.heap.size (hsc newH) = X3; have HR3 := (show Hid (X3.heap[W2.heap.size]? = some (.cells (hsc newH) 25 (0, 0))) from Lib.hid (by rw [← hX]; exact setRow_heap _ W2.heap.size _ (hsc newH) 25 (0, 0) (heap_alloc_new W2 _))); have HX3 := (show Hid (Below w.heap.size w X3) from Lib.hid (HB2.out.trans (by rw [← hX]; exact (below_setRow (below_alloc (Below.refl W2.heap.size W2) _) (Nat.le_refl _) (hsc newH)).mono HB2.out.size))); clear hX; have g3 := HR3.out; unfold hsc at g3; have c0 := (blk_cell g3 0).trans rfl;  have c1 := (blk_cell g3 1).trans rfl; have c2 := (blk_cell g3 2).trans rfl; have c3 := (blk_cell g3 3).trans rfl; have c4 := (blk_cell g3 4).trans rfl; have c5 := (blk_cell g3 5).trans rfl; have c6 := (blk_cell g3 6).trans rfl; have c7 := (blk_cell g3 7).trans rfl; clear g3))
  generalize hW0 : World.alloc X3 _ = W0
  have FV : W0.heap[X3.heap.size]? = some (.cells (s8c start8) 23 (0, 0)) := by rw [← hW0]; exact heap_alloc_new X3 _
  have F4 : W0.heap[W2.heap.size]? = some (.cells (hsc newH) 25 (0, 0)) := by rw [← hW0]; exact blk_alloc HR3.out _
  have FB : Below w.heap.size w W0 := by rw [← hW0]; exact below_alloc HX3.out _
  have z2 : w.heap.size ≤ W2.heap.size := HB2.out.size
  have z3 : W2.heap.size < X3.heap.size := blk_lt HR3.out
  have HFV := Lib.hid FV
  have HF4 := Lib.hid F4
  have HFB := Lib.hid FB
  generalize hg : X3.heap.size = g at *
  clear hW0 FV F4 FB c0 c1 c2 c3 c4 c5 c6 c7 hg HR3 HX3
  go_loopw [6, 7] (fun v6 v7 X => ∃ i : Nat, v6 = .string (txt zs i) ∧ v7 = .int .i64 i ∧ i ≤ zs.length ∧ i ≤ 6 ∧ X.heap[g]? = some (.cells (s8c (all start8 (txt zs i))) 23 (0, 0)) ∧ X.heap[W2.heap.size]? = some (.cells (hsc newH) 25 (0, 0)) ∧ Below w.heap.size w X)
    (fun _ v7 _ => 6 - (intOf v7).toNat)
  case atStart => exact ⟨0, rfl, rfl, by omega, by omega, by rw [show all start8 (txt zs 0) = start8 from all_none _ _ (by rw [txt_size]; omega)]; exact HFV.out, HF4.out, HFB.out⟩
  case round =>
    obtain ⟨i, rfl, rfl, hi1, hi2, hV, h4, hB⟩ := hrel
    have HA := Lib.hid (HR.out.below hB)
    have HV := Lib.hid hV
    have H4 := Lib.hid h4
    have HB := Lib.hid hB
    clear hV h4 hB
    by_cases hi : (i : Int) < zs.length ∧ (i : Int) < 6
    · obtain ⟨hi3, hi4⟩ := hi
      obtain ⟨ad, rfl, hc⟩ := HA.out.at_ (i : Int) (by omega) hi3
      rw [Int.toNat_natCast] at hc
      have hcw : (Lit.int .i64 (rd zs i)).wf = true := by
        unfold rd
        rw [Int.toNat_natCast, List.getD_eq_getElem?_getD, List.getElem?_eq_getElem (by omega)]
        exact hw _ (List.getElem_mem _)
      have i0 : IntKind.i64.min = -9223372036854775808 := rfl
      have i1 : IntKind.i64.max = 9223372036854775807 := rfl
      simp only [Lit.wf, Bool.and_eq_true, decide_eq_true_eq] at hcw
      have HT := Lib.hid (show txt zs (i + 1) = txt zs i ++ ⟨(blkL (rd zs i) 64).toArray⟩ from rfl)
      have HTA := Lib.hid (txt_all start8 zs i)
      have hts := txt_size zs i
      generalize rd zs i = r at *
      obtain ⟨p, hp, hp1⟩ : ∃ p : Nat, pickN r 251 = (p : Int) ∧ p < 251 := ⟨(pickN r 251).toNat, by unfold pickN; omega, by unfold pickN; omega⟩
      have hpk := fun W => pick_calls r 251 W (by omega) (by omega) (by omega) (by omega)
      rw [hp] at hpk
      have HPK := Lib.hid hpk
      have HP := Lib.hid hp
      clear hpk hp i0 i1 hcw
      obtain ⟨V, hV⟩ : ∃ V, V = wr := ⟨_, rfl⟩
      subst hV
      obtain ⟨ti, hti, tz, ts, tb⟩ := info5
      go_wp2_with fail
      go_loopw [8, 9] (fun v8 v9 Y => ∃ k : Nat, k ≤ 64 ∧ v9 = .int .i64 k ∧ BRow Y V.heap.size 5 v8 (blkL r k) ∧ Below V.heap.size V Y)
        (fun _ v9 _ => 64 - (intOf v9).toNat)
      case atStart => exact ⟨0, by omega, rfl, brow_nil _ _ _, Below.refl _ _⟩
      case round =>
        obtain ⟨k, hk, rfl, hR, hY⟩ := hrel
        by_cases hlt : (k : Int) < 64
        · obtain ⟨q, hq, hq1⟩ : ∃ q : Nat, (k : Int) * (k : Int) = (q : Int) ∧ q ≤ 3969 := ⟨k * k, by simp, by
            have := Nat.mul_le_mul (show k ≤ 63 by omega) (show k ≤ 63 by omega)
            omega⟩
          have hcb := pw_cell_below hY hc
          have hwb : V.heap.size ≤ wr.heap.size := hY.size
          have hln : (blkL r k).length = k := blkL_len r k
          have HBS := Lib.hid (blkL_succ r k)
          rw [HP.out, hq, ← Int.natCast_add, Int.toNat_natCast] at HBS
          go_wp2_with (first
            | (go_at_call 22; with_reducible refine (HPK.out _).mono ?_; rintro e W5 ⟨rfl, rfl⟩)
            | (refine wpList_append_brow rfl (.tmp 32) (.tmp 43) 44 rfl V.heap.size 5 ti Tryd.underlying44 hti tz ts tb _ _ rfl (hR.below (below_alloc (Below.refl _ _) _)) ⟨W5.heap.size, 0, none⟩ 1 [UInt8.ofNat (p + q)] rfl (Nat.zero_lt_one) (by intro j u hj; cases j with | zero => (cases hj; rw [add_plain]; refine (blk_cell (heap_alloc_new W5 _) 0).trans ?_; simp [bV]) | succ j => cases hj) (by simp only [List.length_cons, List.length_nil]; omega) (by rw [World.size_alloc]; omega) ?_; intro v' W' hR' hg'))
          have hB' : Below V.heap.size V W' := brow_grown (hR.below (below_alloc (Below.refl _ _) (.cells #[bV (UInt8.ofNat (p + q))] 5))) (below_alloc hY _) (Nat.le_refl _) (by rw [World.size_alloc]; omega) hg'
          go_roundw
          case rel => exact ⟨k + 1, by omega, congrArg (Value.int .i64) (by omega), by rw [HBS.out]; exact hR', hB'⟩
          case measure => simp [intOf]; omega
        · obtain rfl : k = 64 := by omega
          have hsz : (⟨(blkL r 64).toArray⟩ : ByteArray).size = 64 := blk_size r
          generalize blkL r 64 = L at *
          have hgV : g < V.heap.size := blk_lt HV.out
          have kr := run_convert_brow hR 44 9 Tryd.underlying44 Tryd.underlying5 Tryd.underlying9
          have hc := fun W (q : Tbl W) => compress_calls (all start8 (txt zs i)) ⟨L.toArray⟩ W hsz q
          rw [← HTA.out] at hc
          have hR0 := hR
          have HRW := Lib.hid hR0
          have HY := Lib.hid hY
          generalize hv2 : all start8 (txt zs (i + 1)) = v2 at *
          have HV2E := Lib.hid hv2
          clear hv2
          generalize all start8 (txt zs i) = v1 at *
          have HC : Hid (∀ W, Tbl W → Calls Tryd.prog 15 #[.agg (s8c v1), .string ⟨L.toArray⟩] W fun e w' => e = .returned (.tuple #[.agg (s8c v2), .int .i64 0]) ∧ Below W.heap.size W w') := Lib.hid hc
          have hV2 := blk_same HV.out hY
          have h42 := blk_same H4.out hY
          have hB2 := HB.out.trans (hY.mono HB.out.size)
          have HV2 := Lib.hid hV2
          have H42 := Lib.hid h42
          have HB2 := Lib.hid hB2
          clear hc hR hY hV2 h42 hB2 hR0
          go_wp2_with (first
            | (with_reducible refine wpList_load_row rfl 23 (.tmp 5) rfl g rfl 23 (s8c v1) (0, 0) _ HV2.out Tryd.underlying23 rfl (by kernel_rfl) ?_)
            | (go_at_call 15; with_reducible refine (HC.out _ (HG.out.below HB2.out)).mono ?_; rintro e W6 ⟨rfl, hb⟩; have HB6 := Lib.hid hb; have HV6 := Lib.hid (blk_same HV2.out hb); clear hb)
            | (with_reducible refine wpList_store_row rfl 23 (.tmp 10) (.tmp 50) rfl W6.heap.size (s8c v2) rfl (by first | rfl | kernel_rfl) 23 _ (heap_alloc_new W6 _) (by kernel_rfl) (by first | rfl | kernel_rfl) (by first | rfl | kernel_rfl) ?_; generalize hX : World.setRow _ W6.heap.size (s8c v2) = X6; have H67 := (show Hid (X6.heap[W6.heap.size]? = some (.cells (s8c v2) 23 (0, 0))) from Lib.hid (by rw [← hX]; exact setRow_heap _ W6.heap.size _ (s8c v2) 23 (0, 0) (heap_alloc_new W6 _))); have HX6 := (show Hid (Below W6.heap.size W6 X6) from Lib.hid (by rw [← hX]; exact below_setRow (below_alloc (Below.refl W6.heap.size W6) _) (Nat.le_refl _) (s8c v2))); clear hX; have HV7 := Lib.hid (blk_same HV6.out HX6.out))
            | (with_reducible refine wpList_load_row rfl 23 (.tmp 10) rfl W6.heap.size rfl 23 (s8c v2) (0, 0) _ H67.out Tryd.underlying23 rfl (by kernel_rfl) ?_)
            | (with_reducible refine wpList_store_row rfl 23 (.tmp 5) (.tmp 54) rfl g (s8c v2) rfl (by first | rfl | kernel_rfl) 23 _ HV7.out (by kernel_rfl) (s8c_same _ _) (by first | rfl | kernel_rfl) ?_; generalize hX : World.setRow _ g (s8c v2) = X7; have HV8 := (show Hid (X7.heap[g]? = some (.cells (s8c v2) 23 (0, 0))) from Lib.hid (by rw [← hX]; exact setRow_heap _ g _ (s8c v2) 23 (0, 0) HV7.out)); have HG7 := (show Hid (Gb g wr X7) from Lib.hid (by rw [← hX]; exact gb_trans (gb_below g (HB6.out.trans (HX6.out.mono HB6.out.size))) (gb_setRow (s8c v2)))); clear hX; have kr := (run_convert_brow (brow_put HRW.out HG7.out hgV) 44 9 Tryd.underlying44 Tryd.underlying5 Tryd.underlying9)))
          go_roundw
          case rel => exact ⟨i + 1, by rw [HT.out], congrArg (Value.int .i64) (by omega), by omega, by omega, by rw [HV2E.out]; exact HV8.out, gb_same HG7.out H42.out (by omega), HB2.out.trans (gb_toBelow HG7.out HB2.out.size (by omega))⟩
          case measure => simp [intOf]; omega
    · have hta := txt_add zs i hi2
      have hts := txt_size zs i
      generalize all start8 (txt zs i) = v at *
      have HA : Hid (∀ W, Tbl W → Calls Tryd.prog 17 #[.agg (hsc newH), .string (txt zs i)] W fun e w' => e = .returned (.tuple #[.agg (hsc ⟨v, ByteArray.empty, ((64 * i : Nat) : Int)⟩), .int .i64 0]) ∧ Below W.heap.size W w') := Lib.hid (fun W h => by have := add_calls newH (txt zs i) W h; rw [hta] at this; exact this)
      have hor : ¬ ((i : Int) < zs.length) ∨ (((i : Int) < zs.length) ∧ ¬ (i : Int) < 6) := by omega
      clear hta
      have ke := fun W => eq8 v W
      generalize txt zs i = T at *
      rcases hor with h1 | ⟨h1, h2⟩ <;> (
        go_wp2_with (first
          | (with_reducible refine wpList_load_row rfl 25 (.tmp 4) rfl W2.heap.size rfl 25 (hsc newH) (0, 0) _ H4.out Tryd.underlying25 rfl (by kernel_rfl) ?_)
          | (go_at_call 17; with_reducible refine (HA.out _ (HG.out.below HB.out)).mono ?_; rintro e W6 ⟨rfl, hb⟩; have HB6 := Lib.hid hb; have HV6 := Lib.hid (blk_same HV.out hb); clear hb)
          | (with_reducible refine wpList_store_row rfl 25 (.tmp 12) (.tmp 63) rfl W6.heap.size (hsc ⟨v, ByteArray.empty, ((64 * i : Nat) : Int)⟩) rfl (by first | rfl | kernel_rfl) 25 _ (heap_alloc_new W6 _) (by kernel_rfl) (by first | rfl | kernel_rfl) (by first | rfl | kernel_rfl) ?_; generalize hX : World.setRow _ W6.heap.size (hsc ⟨v, ByteArray.empty, ((64 * i : Nat) : Int)⟩) = X8; have hR8 := (show X8.heap[W6.heap.size]? = some (.cells (hsc ⟨v, ByteArray.empty, ((64 * i : Nat) : Int)⟩) 25 (0, 0)) from (by rw [← hX]; exact setRow_heap _ W6.heap.size _ (hsc ⟨v, ByteArray.empty, ((64 * i : Nat) : Int)⟩) 25 (0, 0) (heap_alloc_new W6 _))); have HX8 := (show Hid (Below W6.heap.size W6 X8) from Lib.hid (by rw [← hX]; exact below_setRow (below_alloc (Below.refl W6.heap.size W6) _) (Nat.le_refl _) (hsc ⟨v, ByteArray.empty, ((64 * i : Nat) : Int)⟩))); clear hX; have hV8 := blk_same HV6.out HX8.out; unfold s8c at hV8; unfold hsc at hR8; have c0 := (blk_cell hV8 0).trans rfl; have c1 := (blk_cell hV8 1).trans rfl; have c2 := (blk_cell hV8 2).trans rfl; have c3 := (blk_cell hV8 3).trans rfl; have c4 := (blk_cell hV8 4).trans rfl; have c5 := (blk_cell hV8 5).trans rfl; have c6 := (blk_cell hV8 6).trans rfl; have c7 := (blk_cell hV8 7).trans rfl; have d0 := (blk_cell hR8 0).trans rfl; have d1 := (blk_cell hR8 1).trans rfl; have d2 := (blk_cell hR8 2).trans rfl; have d3 := (blk_cell hR8 3).trans rfl; have d4 := (blk_cell hR8 4).trans rfl; have d5 := (blk_cell hR8 5).trans rfl; have d6 := (blk_cell hR8 6).trans rfl; have d7 := (blk_cell hR8 7).trans rfl; have d8 := (blk_cell hR8 8).trans rfl; have d9 := (blk_cell hR8 9).trans rfl; clear hV8 hR8))
        go_ret
        exact ⟨rfl, HB.out.trans ((HB6.out.trans (HX8.out.mono HB6.out.size)).mono HB.out.size)⟩)
end Go.Proofs.YtajaobebcmlhaaaDoor.Pr
