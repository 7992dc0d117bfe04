/-
  Package mac: pad, sum, Mac; and the reference's. Condition, where the program's own digest is run: the words of the rounds lie where the program has them.
-/
import Derived.Test.YtajaobebcmlhaaaDoorMac
import Derived.Test.YtajaobebcmlhaaaDoorPartsW
namespace Go.Proofs.YtajaobebcmlhaaaDoor.Pr
open Go.RowKit Go.Shelf Go.Proofs.YtajaobebcmlhaaaDoor.XB Go.Proofs.Sha Go.Proofs.YtajaobebcmlhaaaDoorW.PrintWords
attribute [local go_sem] Oper.semAt_some
set_option linter.unusedVariables false
set_option linter.unusedSimpArgs false
/-- What two texts, one behind the other, are summed to. -/
theorem hsum_calls (a b : ByteArray) (w : World) (hG : Tbl w) :
    Calls Tryd.prog 48 #[.string a, .string b] w fun e w' => e = .returned (.string (hsum a b)) ∧ Below w.heap.size w w' := by
  have HG := Lib.hid hG
  clear hG
  have HA := Lib.hid (fun W (h : Tbl W) => add_calls newH a W h)
  generalize hx : addH newH a = x at *
  have HB_ := Lib.hid (fun W (h : Tbl W) => add_calls x.1 b W h)
  generalize hy : addH x.1 b = y at *
  have HE := Lib.hid (fun W (h : Tbl W) => end_calls y.1 W h)
  generalize hz : endH y.1 = z at *
  have HO : hsum a b = z.1 := by unfold hsum; rw [hx, hy, hz]
  rw [HO]
  obtain ⟨x, xe⟩ := x
  obtain ⟨y, ye⟩ := y
  obtain ⟨z, ze⟩ := z
  clear hx hy hz HO
  go_enter Tryd.func48, Tryd.ntmps48
  go_wp2_with (first
    | (go_at_call 18; with_reducible refine (new_calls _).mono ?_; rintro e W1 ⟨rfl, hb⟩; have HB := Lib.hid hb; clear hb)
    | (go_at_call 17; with_reducible refine (HA.out _ (HG.out.below HB.out)).mono ?_; rintro e W2 ⟨rfl, hb⟩; have HB2 := Lib.hid (HB.out.trans (hb.mono HB.out.size)); clear hb)
    | (with_reducible refine wpList_store_row rfl 25 (.tmp 5) (.tmp 13) rfl W2.heap.size (hsc x) rfl (by first | rfl | kernel_rfl) 25 _ (heap_alloc_new W2 _) (by kernel_rfl) (by first | rfl | kernel_rfl) (by first | rfl | kernel_rfl) ?_; generalize hX : World.setRow _ W2.heap.size (hsc x) = X; have HR := (show Hid (X.heap[W2.heap.size]? = some (.cells (hsc x) 25 (0, 0))) from Lib.hid (by rw [← hX]; exact setRow_heap _ W2.heap.size _ (hsc x) 25 (0, 0) (heap_alloc_new W2 _))); have HX := (show Hid (Below w.heap.size w X) from Lib.hid (HB2.out.trans (by rw [← hX]; exact (below_setRow (below_alloc (Below.refl W2.heap.size W2) _) (Nat.le_refl _) (hsc x)).mono HB2.out.size))); clear hX)
    | (with_reducible refine wpList_load_row rfl 25 (.tmp 5) rfl W2.heap.size rfl 25 (hsc x) (0, 0) _ HR.out Tryd.underlying25 rfl (by kernel_rfl) ?_)
    | (go_at_call 17; with_reducible refine (HB_.out _ (HG.out.below HX.out)).mono ?_; rintro e W3 ⟨rfl, hb⟩; have HR3 := Lib.hid (blk_same HR.out hb); have HB3 := Lib.hid (HX.out.trans (hb.mono HX.out.size)); clear hb)
    | (with_reducible refine wpList_store_row rfl 25 (.tmp 5) (.tmp 19) rfl W2.heap.size (hsc y) rfl (by first | rfl | kernel_rfl) 25 _ HR3.out (by kernel_rfl) (hsc_same _ _) (by first | rfl | kernel_rfl) ?_; generalize hY : World.setRow _ W2.heap.size (hsc y) = Y; have HRY := (show Hid (Y.heap[W2.heap.size]? = some (.cells (hsc y) 25 (0, 0))) from Lib.hid (by rw [← hY]; exact setRow_heap _ W2.heap.size _ (hsc y) 25 (0, 0) HR3.out)); have HY := (show Hid (Below w.heap.size w Y) from Lib.hid (by rw [← hY]; exact below_setRow HB3.out HB2.out.size (hsc y))); clear hY)
    | (with_reducible refine wpList_load_row rfl 25 (.tmp 5) rfl W2.heap.size rfl 25 (hsc y) (0, 0) _ HRY.out Tryd.underlying25 rfl (by kernel_rfl) ?_)
    | (go_at_call 23; with_reducible refine (HE.out _ (HG.out.below HY.out)).mono ?_; rintro e W4 ⟨rfl, hb⟩; have HB4 := Lib.hid (HY.out.trans (hb.mono HY.out.size)); clear hb))
  go_ret
  exact ⟨rfl, HB4.out⟩
theorem blk_setF {w : World} {g : Nat} {cur : Array Value} {t : TypeId} {fr : Nat × Nat} (h : w.heap[g]? = some (.cells cur t fr)) (i : Nat) (v : Value) : (w.setCell ⟨g, i, none⟩ v).heap[g]? = some (.cells (cur.setIfInBounds i v) t fr) := by
  simp [World.setCell, Array.getElem?_modify, h]
/-- Bytes, of which the first k are mixed with one. -/
def mixK (l : List UInt8) (b : UInt8) (k : Nat) : List UInt8 := (l.take k).map (· ^^^ b) ++ l.drop k
theorem mixK_len (l : List UInt8) (b : UInt8) (k : Nat) : (mixK l b k).length = l.length := by simp [mixK]; omega
theorem mixK_zero (l : List UInt8) (b : UInt8) : mixK l b 0 = l := by simp [mixK]
theorem mixK_all (l : List UInt8) (b : UInt8) : mixK l b l.length = l.map (· ^^^ b) := by simp [mixK]
theorem mixK_at (l : List UInt8) (b : UInt8) (k : Nat) (h : k < l.length) : (mixK l b k)[k]? = some l[k] := by
  unfold mixK
  rw [List.getElem?_append_right (by simp; omega)]
  simp [Nat.min_eq_left (Nat.le_of_lt h)]
theorem mixK_next (l : List UInt8) (b : UInt8) (k : Nat) (h : k < l.length) : (mixK l b k).set k (l[k] ^^^ b) = mixK l b (k + 1) := by
  apply List.ext_getElem?
  intro j
  rw [List.getElem?_set]
  unfold mixK
  by_cases hj : k = j
  · subst hj
    rw [if_pos rfl, if_pos (by simp; omega), List.getElem?_append_left (by simp; omega)]
    simp [h]
  · rw [if_neg hj]
    rcases Nat.lt_or_ge j k with h1 | h1
    · rw [List.getElem?_append_left (by simp; omega), List.getElem?_append_left (by simp; omega)]
      simp [h1, Nat.lt_succ_of_lt h1]
    · rw [List.getElem?_append_right (by simp; omega), List.getElem?_append_right (by simp; omega)]
      simp [Nat.min_eq_left (Nat.le_of_lt h), Nat.min_eq_left h]
      congr 1; omega
theorem xor_u8 (x b : UInt8) : bits .xor .u8 ((x.toNat : Nat) : Int) ((b.toNat : Nat) : Int) = (((x ^^^ b).toNat : Nat) : Int) := by
  rw [u8_xor_nat _ _ x.toNat_lt b.toNat_lt, UInt8.toNat_xor]
theorem take_cell {cur : Array Value} {l : List UInt8} {m : Nat} (h : cur.toList.take m = l.map bV) (k : Nat) {x : UInt8} (hk : l[k]? = some x) (hm : k < m) : cur[k]? = some (bV x) := by
  have h1 : (cur.toList.take m)[k]? = some (bV x) := by rw [h, List.getElem?_map, hk]; rfl
  rw [List.getElem?_take_of_lt hm] at h1
  simpa using h1
theorem take_put {cur : Array Value} {l : List UInt8} {m : Nat} (h : cur.toList.take m = l.map bV) (k : Nat) (x : UInt8) : (cur.setIfInBounds k (bV x)).toList.take m = (l.set k x).map bV := by
  rw [Array.toList_setIfInBounds, List.take_set, h, List.map_set]
set_option maxRecDepth 100000 in
set_option maxHeartbeats 4000000 in
theorem pad_calls (k : ByteArray) (b : UInt8) (w : World) (hk : k.size ≤ 64) :
    Calls Tryd.prog 49 #[.string k, .int .u8 ((b.toNat : Nat) : Int)] w fun e w' => e = .returned (.string (mixB (zpad k) b)) ∧ Below w.heap.size w w' := by
  have kb := fun W s => print_bytes (P := Tryd.prog) 9 44 5 Tryd.underlying9 Tryd.underlying44 Tryd.underlying5 s W
  have hrep := fun W => rep_calls (64 - k.size) W (by omega)
  have hc : (64 : Int) - (k.size : Int) = ((64 - k.size : Nat) : Int) := by omega
  have hz : (k ++ ⟨(List.replicate (64 - k.size) 0).toArray⟩ : ByteArray) = zpad k := rfl
  have hs := zpad_size k hk
  have hl : (zpad k).data.toList.length = 64 := by rw [← hs]; exact data_length _
  have HREP := Lib.hid hrep
  clear hrep
  have HM := Lib.hid (show mixB (zpad k) b = ⟨((zpad k).data.toList.map (· ^^^ b)).toArray⟩ from rfl)
  go_enter Tryd.func49, Tryd.ntmps49
  rw [HM.out]
  go_wp2_with (first
    | (go_at_call 47; with_reducible refine (HREP.out _).mono ?_; rintro e W1 ⟨rfl, hb⟩; have HB := Lib.hid hb; clear hb))
  have hz2 : (k ++ ⟨Array.replicate (64 - k.size) 0⟩ : ByteArray) = zpad k := by unfold zpad; first | (congr 1; done) | (congr 1; simp; done) | simp
  rw [hz2]
  obtain ⟨n, hn⟩ : ∃ n, n = grownCap W1 64 0 5 := ⟨_, rfl⟩
  have hn64 : 64 ≤ n := by have := grownCap_ge W1 64 0 5; omega
  have hnm : n ≤ maxLen := by rw [hn]; exact grownCap_le_maxLen W1 _ _ 5 (by unfold maxLen; omega)
  have hcs : (Lib.bytesCells W1 5 (zpad k)).size = n := by
    simp only [Lib.bytesCells, hs, ← hn]
    have h2 : (zpad k).data.size = 64 := hs
    simp; omega
  have F : (Lib.bytesWorld W1 5 (zpad k)).heap[W1.heap.size]? = some (.cells (Lib.bytesCells W1 5 (zpad k)) 5 (n, n + 1)) := by rw [Lib.bytesWorld_at_new, hcs]
  have FT : (Lib.bytesCells W1 5 (zpad k)).toList.take 64 = (zpad k).data.toList.map bV := by
    simp only [Lib.bytesCells, Array.toList_append, Array.toList_map]
    rw [List.take_left' (by rw [List.length_map, hl])]
    rfl
  have FB : Below w.heap.size w (Lib.bytesWorld W1 5 (zpad k)) := bytes_below HB.out HB.out.size 5 _
  have z1 : w.heap.size ≤ W1.heap.size := HB.out.size
  rw [← hn]
  clear hn
  generalize hW2 : Lib.bytesWorld W1 5 (zpad k) = W2 at *
  generalize Lib.bytesCells W1 5 (zpad k) = cur at *
  generalize hL : (zpad k).data.toList = L at *
  generalize W1.heap.size = g at *
  have HL := Lib.hid hL
  clear hW2 hz hz2 hL hs kb hc
  go_loopw [16] (fun v X => ∃ (i : Nat) (cu : Array Value), i ≤ 64 ∧ v = .int .i64 (i : Int) ∧ X.heap[g]? = some (.cells cu 5 (n, n + 1)) ∧ cu.size = n ∧ cu.toList.take 64 = (mixK L b i).map bV ∧ Gb g W2 X)
    (fun v _ => 64 - (intOf v).toNat)
  case atStart => exact ⟨0, cur, by omega, rfl, F, hcs, by rw [mixK_zero]; exact FT, gb_refl _ _⟩
  case round =>
    obtain ⟨i, cu, hi, rfl, hT, hcu, hC, hX⟩ := hrel
    by_cases hlt : i < 64
    · have i1 : (i : Int) < 64 := by omega
      have c0 : wr.cell? ⟨g, i, none⟩ = some (.int .u8 ((L[i].toNat : Nat) : Int)) := by
        rw [cell_of_row wr g i cu 5 _ hT]
        exact take_cell hC i (mixK_at L b i (by omega)) hlt
      have f0 : wr.frozen? ⟨g, i, none⟩ = false := by simp [World.frozen?, hT]; omega
      have hx := xor_u8 L[i] b
      have hnx := mixK_next L b i (by omega)
      generalize L[i] = y at *
      have HT := Lib.hid hT
      have HC := Lib.hid hC
      have HNX := Lib.hid hnx
      have HX := Lib.hid hX
      clear hT hC hnx hX
      go_wp2
      generalize hY : World.setCell wr ⟨g, i, none⟩ _ = Y
      have hYT : Y.heap[g]? = some (.cells (cu.setIfInBounds i (bV (y ^^^ b))) 5 (n, n + 1)) := by rw [← hY]; exact blk_setF HT.out i _
      have hYG : Gb g wr Y := by rw [← hY]; exact gb_set wr i _
      clear hY
      go_roundw
      case rel => exact ⟨i + 1, _, by omega, congrArg (Value.int .i64) (by omega), hYT, by simp [hcu], by rw [← HNX.out]; exact take_put HC.out i _, gb_trans HX.out hYG⟩
      case measure => simp [intOf]; omega
    · obtain rfl : i = 64 := by omega
      have hm : mixK L b 64 = L.map (· ^^^ b) := by rw [← hl]; exact mixK_all L b
      rw [hm] at hC
      have hR : BRow wr g 5 (.slice (some ⟨g, 0, none⟩) (L.map (· ^^^ b)).length n) (L.map (· ^^^ b)) := .inr ⟨g, n, cu, rfl, Nat.le_refl _, hT, by simp; omega, hnm, hcu, by rw [List.length_map, hl]; exact hC⟩
      have kr := run_convert_brow hR 44 9 Tryd.underlying44 Tryd.underlying5 Tryd.underlying9
      rw [List.length_map, hl] at kr
      have hB2 : Below w.heap.size w wr := FB.trans (gb_toBelow hX FB.size (by omega))
      have e64 : ((64 : Nat) : Int) = 64 := rfl
      rw [e64]
      clear hT hC hR hX hm e64
      go_wp2
      go_ret
      exact ⟨by rw [HL.out]; first | done | rfl, hB2⟩
set_option maxRecDepth 100000 in
theorem mac_e1 (k s : ByteArray) (w : World) (hk : 1000 < k.size) :
    Calls Tryd.prog 31 #[.string k, .string s] w fun e w' => e = .returned (.tuple #[.string ByteArray.empty, .int .i64 1]) ∧ Below w.heap.size w w' := by
  go_enter Tryd.func31, Tryd.ntmps31
  go_wp2
  go_ret2
  exact ⟨rfl, Below.refl _ _⟩
set_option maxRecDepth 100000 in
theorem mac_e2 (k s : ByteArray) (w : World) (hk : k.size ≤ 1000) (hs : 1048512 < s.size) :
    Calls Tryd.prog 31 #[.string k, .string s] w fun e w' => e = .returned (.tuple #[.string ByteArray.empty, .int .i64 2]) ∧ Below w.heap.size w w' := by
  go_enter Tryd.func31, Tryd.ntmps31
  go_wp2
  go_ret2
  exact ⟨rfl, Below.refl _ _⟩
set_option maxRecDepth 100000 in
theorem mac_long (k s : ByteArray) (w : World) (hG : Tbl w) (hk : k.size ≤ 1000) (hs : s.size ≤ 1048512) (hk2 : 64 < k.size) :
    Calls Tryd.prog 31 #[.string k, .string s] w fun e w' => e = .returned (.tuple #[.string (tagB k s), .int .i64 0]) ∧ Below w.heap.size w w' := by
  have HG := Lib.hid hG
  clear hG
  have h64 : (keyB k).size ≤ 64 := keyB_size k (by omega)
  have H2 := Lib.hid (tag_two k s (by omega) (by omega))
  have HP := Lib.hid (fun (b : UInt8) W => pad_calls (keyB k) b W h64)
  have HS := Lib.hid (fun (b : UInt8) W (q : Tbl W) => hsum_calls (mixB (zpad (keyB k)) 54) s W q)
  have HT := Lib.hid (fun (b : UInt8) W (q : Tbl W) => hsum_calls (mixB (zpad (keyB k)) 92) (hsum (mixB (zpad (keyB k)) 54) s) W q)
  have hP1 : ∀ W, Calls Tryd.prog 49 #[.string (keyB k), .int .u8 92] W fun e w' => e = .returned (.string (mixB (zpad (keyB k)) 92)) ∧ Below W.heap.size W w' := fun W => HP.out 92 W
  have hP2 : ∀ W, Calls Tryd.prog 49 #[.string (keyB k), .int .u8 54] W fun e w' => e = .returned (.string (mixB (zpad (keyB k)) 54)) ∧ Below W.heap.size W w' := fun W => HP.out 54 W
  have HP1 := Lib.hid hP1
  have HP2 := Lib.hid hP2
  clear hP1 hP2
  have HK : Hid (∀ W, Tbl W → Calls Tryd.prog 27 #[.string k] W fun e w' => e = .returned (.tuple #[.string (keyB k), .int .i64 0]) ∧ Below W.heap.size W w') := Lib.hid (fun W q => by
    have := sum_calls k W q
    rw [(sum_size k (by omega)).2] at this
    rw [show keyB k = (sumH k).1 by unfold keyB; rw [if_pos hk2]]
    exact this)
  generalize mixB (zpad (keyB k)) 92 = p1 at *
  generalize mixB (zpad (keyB k)) 54 = p2 at *
  generalize hsum p2 s = q1 at *
  generalize hsum p1 q1 = q2 at *
  rw [← H2.out]
  go_enter Tryd.func31, Tryd.ntmps31
  go_wp2_with (first
    | (go_at_call 27; with_reducible refine (HK.out _ HG.out).mono ?_; rintro e W1 ⟨rfl, hb⟩; have HB1 := Lib.hid hb; clear hb)
    | (go_at_call 49; with_reducible refine (HP1.out _).mono ?_; rintro e W2 ⟨rfl, hb⟩; have HB2 := Lib.hid (HB1.out.trans (hb.mono HB1.out.size)); clear hb)
    | (go_at_call 49; with_reducible refine (HP2.out _).mono ?_; rintro e W3 ⟨rfl, hb⟩; have HB3 := Lib.hid (HB2.out.trans (hb.mono HB2.out.size)); clear hb)
    | (go_at_call 48; with_reducible refine (HS.out 0 _ (HG.out.below HB3.out)).mono ?_; rintro e W4 ⟨rfl, hb⟩; have HB4 := Lib.hid (HB3.out.trans (hb.mono HB3.out.size)); clear hb)
    | (go_at_call 48; with_reducible refine (HT.out 0 _ (HG.out.below HB4.out)).mono ?_; rintro e W5 ⟨rfl, hb⟩; have HB5 := Lib.hid (HB4.out.trans (hb.mono HB4.out.size)); clear hb))
  go_ret2
  exact ⟨rfl, HB5.out⟩
set_option maxRecDepth 100000 in
theorem mac_short (k s : ByteArray) (w : World) (hG : Tbl w) (hk : k.size ≤ 64) (hs : s.size ≤ 1048512) :
    Calls Tryd.prog 31 #[.string k, .string s] w fun e w' => e = .returned (.tuple #[.string (tagB k s), .int .i64 0]) ∧ Below w.heap.size w w' := by
  have HG := Lib.hid hG
  clear hG
  have h64 : (keyB k).size ≤ 64 := keyB_size k (by omega)
  have H2 := Lib.hid (tag_two k s (by omega) (by omega))
  have HP := Lib.hid (fun (b : UInt8) W => pad_calls (keyB k) b W h64)
  have HS := Lib.hid (fun (b : UInt8) W (q : Tbl W) => hsum_calls (mixB (zpad (keyB k)) 54) s W q)
  have HT := Lib.hid (fun (b : UInt8) W (q : Tbl W) => hsum_calls (mixB (zpad (keyB k)) 92) (hsum (mixB (zpad (keyB k)) 54) s) W q)
  have hP1 : ∀ W, Calls Tryd.prog 49 #[.string (keyB k), .int .u8 92] W fun e w' => e = .returned (.string (mixB (zpad (keyB k)) 92)) ∧ Below W.heap.size W w' := fun W => HP.out 92 W
  have hP2 : ∀ W, Calls Tryd.prog 49 #[.string (keyB k), .int .u8 54] W fun e w' => e = .returned (.string (mixB (zpad (keyB k)) 54)) ∧ Below W.heap.size W w' := fun W => HP.out 54 W
  have HP1 := Lib.hid hP1
  have HP2 := Lib.hid hP2
  clear hP1 hP2
  have HB1 := Lib.hid (Below.refl w.heap.size w)
  have hky : keyB k = k := by unfold keyB; rw [if_neg (by omega)]
  rw [hky] at HP1 HP2 HS HT H2
  generalize mixB (zpad k) 92 = p1 at *
  generalize mixB (zpad k) 54 = p2 at *
  generalize hsum p2 s = q1 at *
  generalize hsum p1 q1 = q2 at *
  rw [← H2.out]
  go_enter Tryd.func31, Tryd.ntmps31
  go_wp2_with (first
    | (go_at_call 49; with_reducible refine (HP1.out _).mono ?_; rintro e W2 ⟨rfl, hb⟩; have HB2 := Lib.hid (HB1.out.trans (hb.mono HB1.out.size)); clear hb)
    | (go_at_call 49; with_reducible refine (HP2.out _).mono ?_; rintro e W3 ⟨rfl, hb⟩; have HB3 := Lib.hid (HB2.out.trans (hb.mono HB2.out.size)); clear hb)
    | (go_at_call 48; with_reducible refine (HS.out 0 _ (HG.out.below HB3.out)).mono ?_; rintro e W4 ⟨rfl, hb⟩; have HB4 := Lib.hid (HB3.out.trans (hb.mono HB3.out.size)); clear hb)
    | (go_at_call 48; with_reducible refine (HT.out 0 _ (HG.out.below HB4.out)).mono ?_; rintro e W5 ⟨rfl, hb⟩; have HB5 := Lib.hid (HB4.out.trans (hb.mono HB4.out.size)); clear hb))
  go_ret2
  exact ⟨rfl, HB5.out⟩
theorem mac_calls (k s : ByteArray) (w : World) (hG : Tbl w) :
    Calls Tryd.prog 31 #[.string k, .string s] w fun e w' => e = .returned (.tuple #[.string (macH k s).1, .int .i64 (macH k s).2]) ∧ Below w.heap.size w w' := by
  unfold macH
  by_cases h1 : 1000 < k.size
  · rw [if_pos h1]; exact mac_e1 k s w h1
  · rw [if_neg h1]
    by_cases h2 : 1048512 < s.size
    · rw [if_pos h2]; exact mac_e2 k s w (by omega) h2
    · rw [if_neg h2]
      by_cases h3 : 64 < k.size
      · exact mac_long k s w hG (by omega) (by omega) h3
      · exact mac_short k s w hG (by omega) (by omega)
end Go.Proofs.YtajaobebcmlhaaaDoor.Pr
