/-
  The reference's Mac and Tag. No condition but the ones that each lemma names.
-/
import Derived.Test.YtajaobebcmlhaaaDoorRefSum
import Derived.Test.YtajaobebcmlhaaaDoorMacW
namespace Go.Proofs.YtajaobebcmlhaaaDoor.Pr
open Go.RowKit Go.Shelf Go.Proofs.YtajaobebcmlhaaaDoor.XB Go.Proofs.Sha Go.Proofs.YtajaobebcmlhaaaDoorW.PrintWords
attribute [local go_sem] Oper.semAt_some
set_option linter.unusedVariables false
set_option linter.unusedSimpArgs false
set_option maxRecDepth 100000
def lenZ : Value → Nat
  | .string t => t.size
  | _ => 0
def zj (s : ByteArray) (j : Nat) : ByteArray := s ++ ⟨(List.replicate j 0).toArray⟩
theorem zj_zero (s : ByteArray) : zj s 0 = s := ByteArray.append_empty
theorem zj_next (s : ByteArray) (j : Nat) : zj s j ++ ⟨#[0]⟩ = zj s (j + 1) := by
  unfold zj
  apply ByteArray.ext
  simp only [ByteArray.data_append, Array.append_assoc]
  congr 1
  apply Array.toList_inj.1
  rw [List.replicate_succ']
  simp
theorem zj_size (s : ByteArray) (j : Nat) : (zj s j).size = s.size + j := by unfold zj; rw [ByteArray.size_append, rep_size]
set_option maxRecDepth 100000 in
theorem zeros_loop (x : ByteArray) (hx : x.size ≤ 64) : zj x (64 - x.size) = zpad x := rfl
set_option maxRecDepth 100000 in
set_option maxHeartbeats 4000000 in
theorem padded_calls (k : ByteArray) (w : World) (hk : k.size ≤ 1000) :
    Calls Tryd.prog 50 #[.string k] w fun e w' => e = .returned (.string (zpad (keyB k))) ∧ Below w.heap.size w w' := by
  have h64 := keyB_size k hk
  have HW := Lib.hid (fun W => whole_calls k W)
  have hz : zpad (keyB k) = zj (keyB k) (64 - (keyB k).size) := rfl
  rw [hz]
  by_cases h : 64 < k.size
  · have hky : keyB k = (sumH k).1 := by unfold keyB; rw [if_pos h]
    rw [← hky] at HW
    generalize keyB k = x at *
    clear hky hz
    go_enter Tryd.func50, Tryd.ntmps50
    go_wp2_with (go_at_call 37; with_reducible refine (HW.out _).mono ?_; rintro e W1 ⟨rfl, hb⟩; have HB := Lib.hid hb; clear hb)
    go_loopw [3] (fun v3 X => ∃ j : Nat, j ≤ 64 - x.size ∧ v3 = .string (zj x j) ∧ Below w.heap.size w X) (fun v3 _ => 64 - lenZ v3)
    case atStart => exact ⟨0, by omega, by rw [zj_zero], HB.out⟩
    case round =>
      obtain ⟨j, hj, rfl, hB⟩ := hrel
      have hs1 := zj_size x j
      have HS2 := Lib.hid (zj_size x (j + 1))
      by_cases hlt : j < 64 - x.size
      · have HNX := Lib.hid (zj_next x j)
        have hl : ((zj x j).size : Int) < 64 := by omega
        generalize zj x j = T at *
        go_wp2
        go_roundw
        case rel => exact ⟨j + 1, by omega, by rw [← HNX.out], hB⟩
        case measure =>
          have e1 : (⟨#[0]⟩ : ByteArray).size = 1 := rfl
          simp [lenZ, ByteArray.size_append, e1]; omega
      · obtain rfl : j = 64 - x.size := by omega
        have hl : ¬ ((zj x (64 - x.size)).size : Int) < 64 := by omega
        generalize hT : zj x (64 - x.size) = T at *
        go_wp2
        go_ret
        exact ⟨by first | rfl | (rw [hT]; first | done | rfl), hB⟩
  · have hky : keyB k = k := by unfold keyB; rw [if_neg h]
    rw [hky] at h64
    rw [hky]
    clear hky hz HW
    have HB := Lib.hid (Below.refl w.heap.size w)
    obtain ⟨W1, hW1⟩ : ∃ W1, W1 = w := ⟨_, rfl⟩
    generalize hxk : k = x at *
    clear hxk
    go_enter Tryd.func50, Tryd.ntmps50
    go_wp2
    go_loopw [3] (fun v3 X => ∃ j : Nat, j ≤ 64 - x.size ∧ v3 = .string (zj x j) ∧ Below w.heap.size w X) (fun v3 _ => 64 - lenZ v3)
    case atStart => exact ⟨0, by omega, by rw [zj_zero], HB.out⟩
    case round =>
      obtain ⟨j, hj, rfl, hB⟩ := hrel
      have hs1 := zj_size x j
      have HS2 := Lib.hid (zj_size x (j + 1))
      by_cases hlt : j < 64 - x.size
      · have HNX := Lib.hid (zj_next x j)
        have hl : ((zj x j).size : Int) < 64 := by omega
        generalize zj x j = T at *
        go_wp2
        go_roundw
        case rel => exact ⟨j + 1, by omega, by rw [← HNX.out], hB⟩
        case measure =>
          have e1 : (⟨#[0]⟩ : ByteArray).size = 1 := rfl
          simp [lenZ, ByteArray.size_append, e1]; omega
      · obtain rfl : j = 64 - x.size := by omega
        have hl : ¬ ((zj x (64 - x.size)).size : Int) < 64 := by omega
        generalize hT : zj x (64 - x.size) = T at *
        go_wp2
        go_ret
        exact ⟨by first | rfl | (rw [hT]; first | done | rfl), hB⟩
set_option maxRecDepth 100000 in
set_option maxHeartbeats 4000000 in
theorem mixed_calls (s : ByteArray) (b : UInt8) (w : World) (hs : s.size ≤ 1099511627000) :
    Calls Tryd.prog 51 #[.string s, .int .u8 ((b.toNat : Nat) : Int)] w fun e w' => e = .returned (.string (mixB s b)) ∧ Below w.heap.size w w' := by
  obtain ⟨ti, hti, tz, ts, tb⟩ := info5
  have hl : s.data.toList.length = s.size := data_length s
  have HM := Lib.hid (show mixB s b = ⟨(s.data.toList.map (· ^^^ b)).toArray⟩ from rfl)
  go_enter Tryd.func51, Tryd.ntmps51
  rw [HM.out]
  go_wp2
  go_loopw [5, 6] (fun v5 v6 X => ∃ i : Nat, i ≤ s.size ∧ v6 = .int .i64 (i : Int) ∧ BRow X w.heap.size 5 v5 ((s.data.toList.take i).map (· ^^^ b)) ∧ Below w.heap.size w X)
    (fun _ v6 _ => s.size - (intOf v6).toNat)
  case atStart => exact ⟨0, by omega, rfl, brow_nil _ _ _, Below.refl _ _⟩
  case round =>
    obtain ⟨i, hi, rfl, hR, hB⟩ := hrel
    by_cases hlt : (i : Int) < (s.size : Int)
    · have hix : i < s.data.toList.length := by omega
      have hx := xor_u8 (s[i]'(by omega)) b
      have hnx : (s.data.toList.take (i + 1)).map (· ^^^ b) = (s.data.toList.take i).map (· ^^^ b) ++ [(s[i]'(by omega)) ^^^ b] := by
        rw [List.take_add_one, List.getElem?_eq_getElem hix, List.map_append]
        rfl
      have HNX := Lib.hid hnx
      have hwb : w.heap.size ≤ wr.heap.size := hB.size
      have hln : ((s.data.toList.take i).map (· ^^^ b)).length = i := by simp; omega
      clear hnx
      go_wp2_with (refine wpList_append_brow rfl (.tmp 13) (.tmp 19) 44 rfl w.heap.size 5 ti Tryd.underlying44 hti tz ts tb _ _ rfl (hR.below (below_alloc (Below.refl _ _) _)) ⟨wr.heap.size, 0, none⟩ 1 [(s[i]'(by omega)) ^^^ b] rfl (Nat.zero_lt_one) (by intro j u hj; cases j with | zero => (cases hj; rw [add_plain]; refine (blk_cell (heap_alloc_new wr _) 0).trans ?_; simp [bV]) | succ j => cases hj) (by simp only [List.length_cons, List.length_nil]; omega) (by rw [World.size_alloc]; omega) ?_; intro v' W' hR' hg')
      have hB' : Below w.heap.size w W' := brow_grown (hR.below (below_alloc (Below.refl _ _) (.cells #[bV ((s[i]'(by omega)) ^^^ b)] 5))) (below_alloc hB _) (Nat.le_refl _) (by rw [World.size_alloc]; omega) hg'
      go_roundw
      case rel => exact ⟨i + 1, by omega, congrArg (Value.int .i64) (by omega), by rw [HNX.out]; exact hR', hB'⟩
      case measure => simp [intOf]; omega
    · obtain rfl : i = s.size := by omega
      have hall : s.data.toList.take s.size = s.data.toList := List.take_of_length_le (by omega)
      rw [hall] at hR
      have kr := run_convert_brow hR 44 9 Tryd.underlying44 Tryd.underlying5 Tryd.underlying9
      clear hR hall
      go_wp2
      go_ret
      exact ⟨rfl, hB⟩
theorem refmac_e1 (k s : ByteArray) (w : World) (hk : 1000 < k.size) :
    Calls Tryd.prog 32 #[.string k, .string s] w fun e w' => e = .returned (.tuple #[.string ByteArray.empty, .int .i64 1]) ∧ Below w.heap.size w w' := by
  go_enter Tryd.func32, Tryd.ntmps32
  go_wp2
  go_ret2
  exact ⟨rfl, Below.refl _ _⟩
theorem refmac_e2 (k s : ByteArray) (w : World) (hk : k.size ≤ 1000) (hs : 1048512 < s.size) :
    Calls Tryd.prog 32 #[.string k, .string s] w fun e w' => e = .returned (.tuple #[.string ByteArray.empty, .int .i64 2]) ∧ Below w.heap.size w w' := by
  go_enter Tryd.func32, Tryd.ntmps32
  go_wp2
  go_ret2
  exact ⟨rfl, Below.refl _ _⟩
theorem refmac_ok (k s : ByteArray) (w : World) (hk : k.size ≤ 1000) (hs : s.size ≤ 1048512) :
    Calls Tryd.prog 32 #[.string k, .string s] w fun e w' => e = .returned (.tuple #[.string (tagB k s), .int .i64 0]) ∧ Below w.heap.size w w' := by
  have h64 := zpad_size _ (keyB_size k hk)
  have HT := Lib.hid (show tagB k s = (sumH (mixB (zpad (keyB k)) 92 ++ (sumH (mixB (zpad (keyB k)) 54 ++ s)).1)).1 from rfl)
  have HP := Lib.hid (fun W => padded_calls k W hk)
  have h1 : (mixB (zpad (keyB k)) 54).size = 64 := by rw [mixB_size, h64]
  have h2 : (mixB (zpad (keyB k)) 92).size = 64 := by rw [mixB_size, h64]
  have h3 := (sum_size (mixB (zpad (keyB k)) 54 ++ s) (by rw [ByteArray.size_append, h1]; omega)).1
  have hA : ∀ W, Calls Tryd.prog 51 #[.string (zpad (keyB k)), .int .u8 92] W fun e w' => e = .returned (.string (mixB (zpad (keyB k)) 92)) ∧ Below W.heap.size W w' := fun W => mixed_calls (zpad (keyB k)) 92 W (by omega)
  have hB : ∀ W, Calls Tryd.prog 51 #[.string (zpad (keyB k)), .int .u8 54] W fun e w' => e = .returned (.string (mixB (zpad (keyB k)) 54)) ∧ Below W.heap.size W w' := fun W => mixed_calls (zpad (keyB k)) 54 W (by omega)
  have HA := Lib.hid hA
  have HBm := Lib.hid hB
  clear hA hB
  generalize mixB (zpad (keyB k)) 92 = p1 at *
  generalize mixB (zpad (keyB k)) 54 = p2 at *
  generalize zpad (keyB k) = z at *
  have HC := Lib.hid (fun W => whole_calls (p2 ++ s) W)
  generalize (sumH (p2 ++ s)).1 = q1 at *
  have HD := Lib.hid (fun W => whole_calls (p1 ++ q1) W)
  generalize (sumH (p1 ++ q1)).1 = q2 at *
  have g1 : ¬ 9223372036854775807 < p2.size + s.size := by omega
  have g2 : ¬ 9223372036854775807 < p1.size + q1.size := by omega
  rw [HT.out]
  go_enter Tryd.func32, Tryd.ntmps32
  go_wp2_with (first
    | (go_at_call 50; with_reducible refine (HP.out _).mono ?_; rintro e W1 ⟨rfl, hb⟩; have HB1 := Lib.hid hb; clear hb)
    | (go_at_call 51; with_reducible refine (HA.out _).mono ?_; rintro e W2 ⟨rfl, hb⟩; have HB2 := Lib.hid (HB1.out.trans (hb.mono HB1.out.size)); clear hb)
    | (go_at_call 51; with_reducible refine (HBm.out _).mono ?_; rintro e W3 ⟨rfl, hb⟩; have HB3 := Lib.hid (HB2.out.trans (hb.mono HB2.out.size)); clear hb)
    | (go_at_call 37; with_reducible refine (HC.out _).mono ?_; rintro e W4 ⟨rfl, hb⟩; have HB4 := Lib.hid (HB3.out.trans (hb.mono HB3.out.size)); clear hb)
    | (go_at_call 37; with_reducible refine (HD.out _).mono ?_; rintro e W5 ⟨rfl, hb⟩; have HB5 := Lib.hid (HB4.out.trans (hb.mono HB4.out.size)); clear hb))
  go_ret2
  exact ⟨rfl, HB5.out⟩
theorem refmac_calls (k s : ByteArray) (w : World) :
    Calls Tryd.prog 32 #[.string k, .string s] w fun e w' => e = .returned (.tuple #[.string (macH k s).1, .int .i64 (macH k s).2]) ∧ Below w.heap.size w w' := by
  unfold macH
  by_cases h1 : 1000 < k.size
  · rw [if_pos h1]; exact refmac_e1 k s w h1
  · rw [if_neg h1]
    by_cases h2 : 1048512 < s.size
    · rw [if_pos h2]; exact refmac_e2 k s w (by omega) h2
    · rw [if_neg h2]; exact refmac_ok k s w (by omega) (by omega)
theorem tag_calls (k s : ByteArray) (w : World) :
    Calls Tryd.prog 38 #[.string k, .string s] w fun e w' => e = .returned (.string (macH k s).1) ∧ Below w.heap.size w w' := by
  have HS := Lib.hid (fun W => refmac_calls k s W)
  generalize macH k s = z at *
  obtain ⟨z, ze⟩ := z
  go_enter Tryd.func38, Tryd.ntmps38
  go_wp2_with (go_at_call 32; with_reducible refine (HS.out _).mono ?_; rintro e W1 ⟨rfl, hb⟩; have HB := Lib.hid hb; clear hb)
  go_ret
  exact ⟨rfl, HB.out⟩
end Go.Proofs.YtajaobebcmlhaaaDoor.Pr
