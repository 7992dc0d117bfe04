/-
  TapeNumbers: a number is drawn from two bytes of the tape, or none is and the tape stands where it stood: the law returns true for every input. No condition.
-/
import Derived.Test.YtmkncddbecmlpaaPrFcolumbariumlaw07TapeNumbers
import Derived.Test.YtmkncddbecmlpaaXAwake
set_option linter.unusedVariables false
namespace Go.Proofs.Ytmkncddbecmlpaa.Pure
open Go.RowKit Go.Proofs.Ytmkncddbecmlpaa.Pr Go.Proofs.YtmkncddbecmlpaaW.PrintWords Go.Proofs.YtmkncddbecmlpaaW.PrintLast

/-- A number is drawn from two bytes, or none, and none is lost. -/
theorem TapeNumbers : columbariumlaw07_TapeNumbers.Pure := by
  intro a0 a1 a2 h0 h1 h2
  refine ⟨2, ?_⟩
  obtain ⟨b, p, ht, hb, hp, hp2, hr⟩ := tape_eq a0 h1 h0
  obtain ⟨r, hpick, hr0, hr1⟩ := pick_eq (n := 65536) h2 (by omega) (by omega)
  have e1 : wrap64 (1 + r) = 1 + r := by unfold wrap64; omega
  have hL : leftP b p = (b.size : Int) - p := if_pos hr
  unfold columbariumlaw07_TapeNumbers.f
  rw [awake7 0, ht, hpick]
  simp only [Option.bind_some]
  rw [e1, number_eq, number_eq, number_eq, left_eq, hL]
  simp only [Option.bind_some]
  by_cases hl : 2 > (b.size : Int) - p
  · rw [numP_short hr (by omega) (by omega) hl, numP_short hr (by omega) (by omega) hl, numP_short hr (by omega) (by omega) hl]
    simp only []
    rw [if_pos (by omega)]
    simp [wrap64]
  · rw [numP_ok hr (by omega) (by omega) (by omega), numP_ok hr (by omega) (by omega) (by omega), numP_ok hr (by omega) (by omega) (by omega)]
    rw [if_neg (by omega), take_eq, takeP_ok hr (by omega) (by omega)]
    have hs : (b.extract p.toNat (p + 2).toNat).size = 2 := by rw [extract_size' _ _ _ (by omega)]; omega
    have hx := bt_range b p
    have hy := bt_range b (p + 1)
    have b0 : bt (b.extract p.toNat (p + 2).toNat) 0 = bt b p := by
      rw [bt_extract _ _ _ _ (by omega) (by omega) (by omega)]; congr 1; omega
    have b1 : bt (b.extract p.toNat (p + 2).toNat) 1 = bt b (p + 1) := by
      rw [bt_extract _ _ _ _ (by omega) (by omega) (by omega)]; congr 1; omega
    have w1 : wrap64 (bt b p) = bt b p := by unfold wrap64; omega
    have w2 : wrap64 (bt b (p + 1)) = bt b (p + 1) := by unfold wrap64; omega
    have w3 : wrap64 (256 * bt b p) = 256 * bt b p := by unfold wrap64; omega
    have w4 : wrap64 (256 * bt b p + bt b (p + 1)) = 256 * bt b p + bt b (p + 1) := by unfold wrap64; omega
    have m1 : (256 * bt b p + bt b (p + 1)) % 65536 = 256 * bt b p + bt b (p + 1) := by omega
    have m2 : Int.tmod (256 * bt b p + bt b (p + 1)) (1 + r) = (256 * bt b p + bt b (p + 1)) % (1 + r) := Int.tmod_eq_emod_of_nonneg (by omega)
    simp only [Option.bind_some]
    rw [hs, b0, b1, w1, w2, w3, w4, m1, m2]
    rw [if_pos trivial, if_pos trivial, if_pos trivial, if_pos trivial, if_pos trivial, if_pos (by simp), if_pos (by simp), if_pos (by rfl), if_pos (by omega), if_pos (by omega), if_pos rfl, if_neg (by omega), if_pos rfl]
    simp [Int.emod_one]
end Go.Proofs.Ytmkncddbecmlpaa.Pure
