/-
  The reference's End: what a sum on its way comes to. No condition.
-/
import Derived.Test.YtajaobebcmlhaaaDoorConv1
namespace Go.Proofs.YtajaobebcmlhaaaDoor.Pr
open Go.RowKit Go.Shelf Go.Proofs.YtajaobebcmlhaaaDoor.XB Go.Proofs.Sha Go.Proofs.YtajaobebcmlhaaaDoorW.PrintWords
attribute [local go_sem] Oper.semAt_some
set_option linter.unusedVariables false
set_option linter.unusedSimpArgs false
def lenS : Value → Nat
  | .string t => t.size
  | _ => 0
theorem s8c_get (v : S8) (j : Nat) (h : j < 8) : (s8c v)[j]? = some (.int .u32 (u (s8f v j))) := by
  have hj : j = 0 ∨ j = 1 ∨ j = 2 ∨ j = 3 ∨ j = 4 ∨ j = 5 ∨ j = 6 ∨ j = 7 := by omega
  rcases hj with rfl | rfl | rfl | rfl | rfl | rfl | rfl | rfl <;> rfl
/-- A text, the mark behind it, and so many noughts. -/
def mk (s : ByteArray) (j : Nat) : ByteArray := s ++ ⟨(128 :: List.replicate j 0).toArray⟩
theorem mk_zero (s : ByteArray) : mk s 0 = s ++ ⟨#[128]⟩ := rfl
theorem mk_next (s : ByteArray) (j : Nat) : mk s j ++ ⟨#[0]⟩ = mk s (j + 1) := by
  unfold mk
  apply ByteArray.ext
  simp only [ByteArray.data_append, Array.append_assoc]
  congr 1
  apply Array.toList_inj.1
  rw [List.replicate_succ']
  simp
theorem mk_size (s : ByteArray) (j : Nat) : (mk s j).size = s.size + 1 + j := by
  unfold mk
  rw [ByteArray.size_append]
  show _ + (128 :: List.replicate j (0 : UInt8)).toArray.size = _
  simp; omega
/-- The bytes of a number, of which the last k are laid. -/
def tc (N k : Nat) : Array Value := ((List.replicate (8 - k) (0 : UInt8) ++ (be8 N).drop (8 - k)).map bV).toArray
theorem tc_size (N k : Nat) (h : k ≤ 8) : (tc N k).size = 8 := by simp [tc, be8]
theorem tc_next (N : Nat) : ∀ k, k < 8 → (tc N k).setIfInBounds (7 - k) (bV (UInt8.ofNat (N / 2 ^ (8 * k)))) = tc N (k + 1) := by
  intro k hk
  have h : k = 0 ∨ k = 1 ∨ k = 2 ∨ k = 3 ∨ k = 4 ∨ k = 5 ∨ k = 6 ∨ k = 7 := by omega
  rcases h with rfl | rfl | rfl | rfl | rfl | rfl | rfl | rfl <;> rfl
theorem tc_low (N k o : Nat) (h : k + o = 7) : (tc N k)[o]? = some (.int .u8 0) := by
  simp only [tc, List.getElem?_toArray, List.getElem?_map]
  rw [List.getElem?_append_left (by simp; omega), List.getElem?_replicate, if_pos (by omega)]
  rfl
theorem tc_full (N k : Nat) (h : k < 8) : (tc N 8)[k]? = some (bV (UInt8.ofNat (N / 2 ^ (56 - 8 * k)))) := by
  simp only [tc, List.getElem?_toArray, List.getElem?_map]
  simp [be8, List.getElem?_map, List.getElem?_range h]
theorem full_eq (x : Hs) (c n : Nat) (hc : c = (119 - x.rest.size) % 64) (hn : x.many.toNat = n) : mk x.rest c ++ ⟨((be8 (8 * n)).take 8).toArray⟩ = fullT x := by
  subst hc hn
  unfold mk fullT padL
  apply ByteArray.ext
  simp only [ByteArray.data_append, Array.append_assoc]
  congr 1
  rw [List.take_of_length_le (by simp [be8])]
  simp
theorem be8_app (s : ByteArray) (n : Nat) {k : Nat} (hk : k < 8) : (s ++ ⟨((be8 n).take k).toArray⟩) ++ ⟨#[UInt8.ofNat (n / 2 ^ (56 - 8 * k))]⟩ = s ++ ⟨((be8 n).take (k + 1)).toArray⟩ := by
  apply ByteArray.ext
  simp only [ByteArray.data_append, Array.append_assoc]
  congr 1
  rw [be8_next n hk]
  simp
set_option maxRecDepth 100000 in
theorem refend_e1 (x : Hs) (w : World) (hr : rightH x = false) :
    Calls Tryd.prog 24 #[.agg (hsc x)] w fun e w' => e = .returned (.tuple #[.string ByteArray.empty, .int .i64 1]) ∧ Below w.heap.size w w' := by
  have HR := Lib.hid hr
  clear hr
  have hra := refright_any x
  simp only [hsc] at hra ⊢
  have HRA := Lib.hid hra
  clear hra
  go_enter Tryd.func24, Tryd.ntmps24
  go_wp2_with (go_at_call 26; with_reducible refine (HRA.out _).mono ?_; rintro e W1 ⟨rfl, hb⟩; rw [HR.out]; have HB := Lib.hid hb; clear hb)
  go_ret2
  exact ⟨rfl, (below_alloc (Below.refl _ w) _).trans (HB.out.mono (by simp only [World.size_alloc]; omega))⟩
set_option maxRecDepth 100000 in
set_option maxHeartbeats 4000000 in
theorem refend_ok (x : Hs) (w : World) (hr : rightH x = true) :
    Calls Tryd.prog 24 #[.agg (hsc x)] w fun e w' => e = .returned (.tuple #[.string ⟨(outL (all x.H (fullT x)) 8).toArray⟩, .int .i64 0]) ∧ Below w.heap.size w w' := by
  obtain ⟨m0, m1, m2⟩ := (rightH_iff x).1 hr
  have hrs : x.rest.size < 64 := by omega
  have HR := Lib.hid hr
  have HM2 := Lib.hid m2
  clear hr m2
  have hra := refright_any x
  simp only [hsc] at hra ⊢
  have HRA := Lib.hid hra
  clear hra
  obtain ⟨n, hn⟩ : ∃ n : Nat, x.many = n := ⟨x.many.toNat, by omega⟩
  obtain ⟨c, hc⟩ : ∃ c : Nat, c = (119 - x.rest.size) % 64 := ⟨_, rfl⟩
  have HFE := Lib.hid (full_eq x c n hc (by omega))
  have hn1 : n ≤ 1048576 := by omega
  have HN := Lib.hid hn
  clear hn m0 m1
  go_enter Tryd.func24, Tryd.ntmps24
  go_wp2_with (go_at_call 26; with_reducible refine (HRA.out _).mono ?_; rintro e W1 ⟨rfl, hb⟩; rw [HR.out]; have HB := Lib.hid hb; clear hb; have HG0 := Lib.hid (blk_same (heap_alloc_new w _) HB.out); have c8 := (blk_cell HG0.out 8).trans rfl)
  go_loopw [4] (fun v4 X => ∃ j : Nat, j ≤ c ∧ v4 = .string (mk x.rest j) ∧ X = W1) (fun v4 _ => 200 - lenS v4)
  case atStart => exact ⟨0, by omega, rfl, rfl⟩
  case round =>
    obtain ⟨j, hj, rfl, hwr⟩ := hrel
    subst hwr
    have hz := mk_size x.rest j
    have hnx := mk_next x.rest j
    by_cases hlt : j < c
    · obtain ⟨m, hm1, hm2⟩ : ∃ m : Nat, (((mk x.rest j).size : Int)).tmod 64 = (m : Int) ∧ m ≠ 56 := ⟨(mk x.rest j).size % 64, by rw [Int.tmod_eq_emod_of_nonneg (by omega)]; omega, by omega⟩
      have hq : ((m : Int) == 56) = false := by simp; omega
      have HNX := Lib.hid hnx
      have HT := Lib.hid hlt
      generalize mk x.rest j = T at *
      go_wp2
      go_roundw
      case rel => exact ⟨j + 1, by omega, by rw [← HNX.out], by first | rfl | trivial⟩
      case measure => have hz2 := mk_size x.rest (j + 1); simp [lenS]; omega
    · obtain rfl : j = c := by omega
      have hm1 : (((mk x.rest j).size : Int)).tmod 64 = 56 := by rw [Int.tmod_eq_emod_of_nonneg (by omega)]; omega
      generalize mk x.rest j = T at *
      have c9 : wr.cell? ⟨w.heap.size, 9, none⟩ = some (.int .i64 (n : Int)) := by rw [← HN.out]; exact (blk_cell HG0.out 9).trans rfl
      go_wp2
      generalize hW2 : World.alloc wr _ = W2
      have FT : W2.heap[wr.heap.size]? = some (.cells (tc (8 * n) 0) 75 (0, 0)) := by rw [← hW2]; exact heap_alloc_new wr _
      have F0 : W2.heap[w.heap.size]? = some (.cells (hsc x) 25 (0, 0)) := by rw [← hW2]; exact blk_alloc HG0.out _
      have FB : Below w.heap.size w W2 := by rw [← hW2]; exact below_alloc ((below_alloc (Below.refl _ w) _).trans (HB.out.mono (by simp only [World.size_alloc]; omega))) _
      have z1 : w.heap.size < wr.heap.size := blk_lt HG0.out
      have HF0 := Lib.hid F0
      have HFT := Lib.hid FT
      have HFB := Lib.hid FB
      have HTZ := Lib.hid hz
      have HTB := Lib.hid (show T.size ≤ 200 by omega)
      generalize wr.heap.size = b at *
      clear hW2 F0 FT FB c9 hz hnx HG0 HB hm1
      go_loopw [5, 7] (fun v5 v7 X => ∃ k : Nat, k ≤ 8 ∧ v5 = .int .i64 ((8 * n / 2 ^ (8 * k) : Nat) : Int) ∧ v7 = .int .i64 (7 - (k : Int)) ∧ X.heap[b]? = some (.cells (tc (8 * n) k) 75 (0, 0)) ∧ Gb b W2 X)
        (fun _ v7 _ => (intOf v7 + 1).toNat)
      case atStart => exact ⟨0, by omega, by simp, rfl, HFT.out, gb_refl _ _⟩
      case round =>
        obtain ⟨k, hk, rfl, rfl, hT, hX⟩ := hrel
        by_cases hlt : k < 8
        · obtain ⟨o, ho, hko⟩ : ∃ o : Nat, (7 : Int) - (k : Int) = (o : Int) ∧ k + o = 7 := ⟨7 - k, by omega, by omega⟩
          have c0 : wr.cell? ⟨b, o, none⟩ = some (.int .u8 0) := (blk_cell hT o).trans (tc_low _ _ _ hko)
          have f0 := blk_frozen hT o
          have hnx := tc_next (8 * n) k hlt
          have hdv : 8 * n / 2 ^ (8 * k) / 256 = 8 * n / 2 ^ (8 * (k + 1)) := by rw [Nat.div_div_eq_div_mul, show (2 : Nat) ^ (8 * (k + 1)) = 2 ^ (8 * k) * 256 from (congrArg (2 ^ ·) (show 8 * (k + 1) = 8 * k + 8 by omega)).trans (Nat.pow_add 2 (8 * k) 8)]
          have hMb : 8 * n / 2 ^ (8 * k) ≤ 8388608 := Nat.le_trans (Nat.div_le_self _ _) (by omega)
          have HNX := Lib.hid hnx
          have HDV := Lib.hid hdv
          have HT := Lib.hid hT
          have HX := Lib.hid hX
          clear hnx hdv hT hX
          rw [ho]
          generalize 8 * n / 2 ^ (8 * k) = M at *
          have q1 : (M : Int).tmod 256 = ((M % 256 : Nat) : Int) := by rw [Int.tmod_eq_emod_of_nonneg (by omega)]; omega
          have q2 : (M : Int).tdiv 256 = ((M / 256 : Nat) : Int) := by rw [Int.tdiv_eq_ediv_of_nonneg (by omega)]; omega
          have o8 : (o : Int) < 8 := by omega
          go_wp2
          generalize hY : World.setCell wr ⟨b, o, none⟩ _ = Y
          have hYv : Value.int .u8 ((M : Int) % 256) = bV (UInt8.ofNat M) := by simp [bV]
          have hYT : Y.heap[b]? = some (.cells (tc (8 * n) (k + 1)) 75 (0, 0)) := by rw [← hY, ← HNX.out, ← hYv, show 7 - k = o by omega]; exact blk_set HT.out o _
          have hYG : Gb b wr Y := by rw [← hY]; exact gb_set wr o _
          clear hY
          go_roundw
          case rel => exact ⟨k + 1, by omega, congrArg (Value.int .i64) (by rw [← HDV.out]; omega), congrArg (Value.int .i64) (by omega), hYT, gb_trans HX.out hYG⟩
          case measure => simp [intOf]
        · obtain rfl : k = 8 := by omega
          have e7 : (7 : Int) - ((8 : Nat) : Int) = -1 := rfl
          rw [e7]
          have HT := Lib.hid hT
          have HX := Lib.hid hX
          have HGX := Lib.hid hX
          have zb : b < wr.heap.size := blk_lt hT
          clear hT hX e7
          go_wp2
          obtain ⟨V, hV⟩ : ∃ V, V = wr := ⟨_, rfl⟩
          subst hV
          go_loopw [4, 8] (fun v4 v8 X => ∃ k : Nat, k ≤ 8 ∧ v4 = .string (T ++ ⟨((be8 (8 * n)).take k).toArray⟩) ∧ v8 = .int .i64 (k : Int) ∧ Below V.heap.size V X)
            (fun _ v8 _ => 8 - (intOf v8).toNat)
          case atStart => exact ⟨0, by omega, by rw [List.take_zero]; exact congrArg Value.string (ByteArray.append_empty (b := T)).symm, rfl, Below.refl _ _⟩
          case round =>
            obtain ⟨k, hk, rfl, rfl, hX⟩ := hrel
            by_cases hlt : k < 8
            · have hb8 := be8_app T (8 * n) hlt
              have hrow := blk_same HT.out hX
              have hcl := (blk_cell hrow k).trans (tc_full _ _ hlt)
              generalize UInt8.ofNat (8 * n / 2 ^ (56 - 8 * k)) = y at *
              have c1 : wr.cell? ⟨b, k, none⟩ = some (.int .u8 ((y.toNat : Nat) : Int)) := hcl
              have kc : ∀ (W : World) (g : Nat), W.cell? ⟨g, 0, none⟩ = some (.int .u8 ((y.toNat : Nat) : Int)) → Sem.run Tryd.prog (convert 44 9 (.slice (some ⟨g, 0, none⟩) 1 1)) W = .ok (.string ⟨#[y]⟩) W := fun W g h => conv1 y W g h
              have hsz : (T ++ ⟨((be8 (8 * n)).take k).toArray⟩ : ByteArray).size ≤ 300 := by
                rw [ByteArray.size_append]
                show _ + ((be8 (8 * n)).take k).toArray.size ≤ _
                have := HTB.out
                simp [be8]; omega
              have HB8 := Lib.hid hb8
              have HX := Lib.hid hX
              generalize T ++ (⟨((be8 (8 * n)).take k).toArray⟩ : ByteArray) = S at *
              clear hb8 hrow hcl hX
              have k8 : (k : Int) < 8 := by omega
              go_wp2
              go_roundw
              case rel => exact ⟨k + 1, by omega, by rw [← HB8.out], congrArg (Value.int .i64) (by omega), below_alloc HX.out _⟩
              case measure => simp [intOf]; omega
            · obtain rfl : k = 8 := by omega
              rw [HFE.out]
              have hTs : (fullT x).size = x.rest.size + 1 + (119 - x.rest.size) % 64 + 8 := by
                show (x.rest ++ _ : ByteArray).size = _
                rw [ByteArray.size_append]
                show _ + (padL _ _).toArray.size = _
                simp [padL, be8]; omega
              have hTm : (fullT x).size % 64 = 0 := by omega
              have hTb : (fullT x).size ≤ 300 := by omega
              have HX := Lib.hid hX
              have HT2 := Lib.hid (show T = T from rfl)
              generalize hTT : fullT x = Tx at *
              clear hTs hX HFE
              have hr0 := blk_same (gb_same HGX.out HF0.out (by omega)) HX.out
              unfold hsc at hr0
              have c0 := (blk_cell hr0 0).trans rfl
              have c1 := (blk_cell hr0 1).trans rfl
              have c2 := (blk_cell hr0 2).trans rfl
              have c3 := (blk_cell hr0 3).trans rfl
              have c4 := (blk_cell hr0 4).trans rfl
              have c5 := (blk_cell hr0 5).trans rfl
              have c6 := (blk_cell hr0 6).trans rfl
              have c7 := (blk_cell hr0 7).trans rfl
              have c8 := (blk_cell hr0 8).trans rfl
              have c9 := (blk_cell hr0 9).trans rfl
              have HR0 := Lib.hid hr0
              have b4 : Below w.heap.size w wr := (HFB.out.trans (gb_toBelow HGX.out HFB.out.size (by omega))).trans (HX.out.mono (HFB.out.trans (gb_toBelow HGX.out HFB.out.size (by omega))).size)
              have HB4 := Lib.hid b4
              clear hr0 b4
              go_wp2
              generalize hW4 : World.alloc wr _ = W4
              have FV : W4.heap[wr.heap.size]? = some (.cells (s8c x.H) 23 (0, 0)) := by rw [← hW4]; exact heap_alloc_new wr _
              have FB : Below w.heap.size w W4 := by rw [← hW4]; exact below_alloc HB4.out _
              have z5 : w.heap.size ≤ wr.heap.size := HB4.out.size
              have HFV := Lib.hid FV
              have HFB4 := Lib.hid FB
              generalize wr.heap.size = g at *
              clear hW4 FV FB c0 c1 c2 c3 c4 c5 c6 c7 c8 c9
              go_loopw [10] (fun v X => ∃ k : Nat, 64 * k ≤ Tx.size ∧ v = .int .i64 ((64 * k : Nat) : Int) ∧ X.heap[g]? = some (.cells (s8c (many x.H Tx k)) 23 (0, 0)) ∧ Gb g W4 X)
                (fun v _ => Tx.size - (intOf v).toNat)
              case atStart => exact ⟨0, by omega, rfl, HFV.out, gb_refl _ _⟩
              case round =>
                obtain ⟨k, hk, rfl, hV, hX⟩ := hrel
                by_cases hlt : 64 * k < Tx.size
                · have hsz : (Tx.extract (64 * k) (64 * k + 64)).size = 64 := by rw [ByteArray.size_extract]; omega
                  have hc := fun X => refcompress_calls (many x.H Tx k) (Tx.extract (64 * k) (64 * k + 64)) X hsz
                  have hstep : many x.H Tx (k + 1) = comp (many x.H Tx k) (Tx.extract (64 * k) (64 * k + 64)) := rfl
                  have HSTEP := Lib.hid hstep
                  clear hstep
                  generalize many x.H Tx k = v at *
                  unfold s8c at hV
                  simp only [s8c] at hc
                  have HC := Lib.hid hc
                  have i1 : ((64 * k : Nat) : Int) + 64 ≤ (Tx.size : Int) := by omega
                  have i0 : ((64 * k : Nat) : Int) < (Tx.size : Int) := by omega
                  have i2 : 0 ≤ ((64 * k : Nat) : Int) := by omega
                  have i3 : ((64 * k : Nat) : Int) ≤ ((64 * k : Nat) : Int) + 64 := by omega
                  have i4 : 0 ≤ ((64 * k : Nat) : Int) + 64 := by omega
                  have i5 : (((64 * k : Nat) : Int) + 64).toNat = 64 * k + 64 := by omega
                  have i6 : IntKind.i64.wrap (((64 * k : Nat) : Int) + 64) = ((64 * k : Nat) : Int) + 64 := IntWalk.i64_in _ (by omega)
                  have c0 := (blk_cell hV 0).trans rfl
                  have c1 := (blk_cell hV 1).trans rfl
                  have c2 := (blk_cell hV 2).trans rfl
                  have c3 := (blk_cell hV 3).trans rfl
                  have c4 := (blk_cell hV 4).trans rfl
                  have c5 := (blk_cell hV 5).trans rfl
                  have c6 := (blk_cell hV 6).trans rfl
                  have c7 := (blk_cell hV 7).trans rfl
                  have HV := Lib.hid hV
                  have HX := Lib.hid hX
                  have hle : 64 * k + 64 ≤ Tx.size := by omega
                  clear hc hV hX hsz
                  generalize hat : 64 * k = at_ at *
                  have HAT := Lib.hid hat
                  clear hat
                  go_wp2
                  go_region_with ((go_at_call 16; refine (HC.out _).mono ?_; rintro e Y ⟨rfl, hY⟩; have HY := Lib.hid (show Below wr.heap.size wr Y from (below_drew1 (Below.refl wr.heap.size wr)).trans hY); clear hY; have HG2 := Lib.hid (blk_same HV.out HY.out); have e0 := (blk_cell HG2.out 0).trans rfl; have f0 := blk_frozen HG2.out 0; have e1 := (blk_cell HG2.out 1).trans rfl; have f1 := blk_frozen HG2.out 1; have e2 := (blk_cell HG2.out 2).trans rfl; have f2 := blk_frozen HG2.out 2; have e3 := (blk_cell HG2.out 3).trans rfl; have f3 := blk_frozen HG2.out 3; have e4 := (blk_cell HG2.out 4).trans rfl; have f4 := blk_frozen HG2.out 4; have e5 := (blk_cell HG2.out 5).trans rfl; have f5 := blk_frozen HG2.out 5; have e6 := (blk_cell HG2.out 6).trans rfl; have f6 := blk_frozen HG2.out 6; have e7 := (blk_cell HG2.out 7).trans rfl; have f7 := blk_frozen HG2.out 7; clear c0 c1 c2 c3 c4 c5 c6 c7))
                  all_goals
                    go_wp2
                    generalize hZ : World.setCell _ ⟨g, 7, none⟩ _ = Z
                    have ZV : Z.heap[g]? = some (.cells (s8c (many x.H Tx (k + 1))) 23 (0, 0)) := by rw [← hZ, HSTEP.out]; exact put8 HG2.out
                    have ZG : Gb g Y Z := by rw [← hZ]; exact gb_put8 _
                    clear hZ
                    go_roundw
                    case rel => exact ⟨k + 1, by have := HAT.out; omega, by have := HAT.out; exact congrArg (Value.int .i64) (by omega), ZV, gb_trans HX.out (gb_trans (gb_below _ HY.out) ZG)⟩
                    case measure => simp [intOf]; omega
                · have hkk : 64 * k = Tx.size := by omega
                  have hall : many x.H Tx k = all x.H Tx := by unfold all; congr 1; omega
                  rw [hall] at hV
                  generalize hve : all x.H Tx = v at *
                  have HVE := Lib.hid hve
                  have HX := Lib.hid hX
                  have HV := Lib.hid hV
                  clear hve hall hX
                  rw [hkk]
                  unfold s8c at hV
                  go_wp2
                  obtain ⟨U, hU⟩ : ∃ U, U = wr := ⟨_, rfl⟩
                  subst hU
                  obtain ⟨ti, hti, tz, ts, tb⟩ := info5
                  have zg : g < U.heap.size := blk_lt HV.out
                  go_loopw [11, 12] (fun r i X => ∃ j : Nat, j ≤ 8 ∧ i = .int .i64 (j : Int) ∧ BRow X U.heap.size 5 r (outL v j) ∧ Below U.heap.size U X)
                    (fun _ i _ => 8 - (intOf i).toNat)
                  case atStart => exact ⟨0, by omega, rfl, brow_nil _ _ _, Below.refl _ _⟩
                  case round =>
                    obtain ⟨j, hj, rfl, hR, hX⟩ := hrel
                    by_cases hlt : j < 8
                    · have j1 : (j : Int) < 8 := by omega
                      have cj : wr.cell? ⟨g, j, none⟩ = some (.int .u32 (u (s8f v j))) := by
                        have h := blk_cell (blk_same HV.out hX) j
                        rw [h]
                        exact s8c_get v j hlt
                      have hout : outL v (j + 1) = outL v j ++ by4 (s8f v j) := rfl
                      generalize s8f v j = y at *
                      have u0 := u_nonneg y
                      have u1 := u_lt y
                      have hwb : U.heap.size ≤ wr.heap.size := hX.size
                      have hln : (outL v j).length = 4 * j := outL_len v j
                      have HOUT := Lib.hid hout
                      clear hout
                      go_wp2_with fail
                      go_region_law (refine step_append_brow rfl (.tmp 72) (.tmp 92) 44 rfl U.heap.size 5 ti Tryd.underlying44 hti tz ts tb _ _ rfl (hR.below (below_drew1 (below_alloc (Below.refl _ _) _))) ⟨wr.heap.size, 0, none⟩ 4 (by4 y) rfl (Nat.succ_pos 3) (by intro j u hj; rw [add_plain]; match j with | 0 => (cases hj; refine (blk_cell (heap_alloc_new wr _) 0).trans (congrArg some ?_); exact by4_cell y 16777216 _ (by first | exact u8w _ | (simp [u8w]; done) | (simp [u8w]; omega))) | 1 => (cases hj; refine (blk_cell (heap_alloc_new wr _) 1).trans (congrArg some ?_); exact by4_cell y 65536 _ (by first | exact u8w _ | (simp [u8w]; done) | (simp [u8w]; omega))) | 2 => (cases hj; refine (blk_cell (heap_alloc_new wr _) 2).trans (congrArg some ?_); exact by4_cell y 256 _ (by first | exact u8w _ | (simp [u8w]; done) | (simp [u8w]; omega))) | 3 => (cases hj; refine (blk_cell (heap_alloc_new wr _) 3).trans (congrArg some ?_); exact (by4_cell y 1 _ (by first | (simp [u8w]; done) | (simp [u8w]; omega))).trans (by simp)) | j + 4 => cases hj) (by show (outL v j).length + 4 ≤ _; omega) (by show U.heap.size ≤ (wr.alloc _).heap.size; rw [World.size_alloc]; omega) ?_; intro v' W' hR' hg')
                      all_goals (
                        have hB' : Below U.heap.size U W' := brow_grown (hR.below (below_drew1 (below_alloc (Below.refl _ _) (.cells ((by4 y).map bV).toArray 5)))) (below_drew1 (below_alloc hX _)) (Nat.le_refl _) (by show U.heap.size ≤ (wr.alloc _).heap.size; rw [World.size_alloc]; omega) hg'
                        go_wp2
                        go_roundw
                        case rel => exact ⟨j + 1, by omega, congrArg (Value.int .i64) (by omega), by rw [HOUT.out]; exact hR', hB'⟩
                        case measure => simp [intOf]; omega)
                    · obtain rfl : j = 8 := by omega
                      have kr := run_convert_brow hR 44 9 Tryd.underlying44 Tryd.underlying5 Tryd.underlying9
                      have bU : Below w.heap.size w U := HFB4.out.trans (gb_toBelow HX.out HFB4.out.size (by omega))
                      have bE := Lib.hid (bU.trans (hX.mono bU.size))
                      have e8 : ((8 : Nat) : Int) = 8 := rfl
                      rw [e8]
                      clear hX hR bU e8
                      go_wp2
                      go_ret2
                      exact ⟨by rw [hTT, HVE.out]; first | done | rfl, bE.out⟩
theorem refend_calls (x : Hs) (w : World) : Calls Tryd.prog 24 #[.agg (hsc x)] w fun e w' => e = .returned (.tuple #[.string (endH x).1, .int .i64 (endH x).2]) ∧ Below w.heap.size w w' := by
  unfold endH
  by_cases hr : rightH x = true
  · rw [if_pos hr]; exact refend_ok x w hr
  · rw [if_neg hr]; exact refend_e1 x w (by simpa using hr)
end Go.Proofs.YtajaobebcmlhaaaDoor.Pr
