/-
  TapeParts: what is taken in two parts is what is taken at once, and what lies behind it counts for nothing: the law returns true for every input. No condition.
-/
import Derived.Test.YtmkncddbecmlpaaPrFcolumbariumlaw07TapeParts
import Derived.Test.YtmkncddbecmlpaaXAwake
set_option linter.unusedVariables false
namespace Go.Proofs.Ytmkncddbecmlpaa.Pure
open Go.RowKit Go.Proofs.Ytmkncddbecmlpaa.Pr Go.Proofs.YtmkncddbecmlpaaW.PrintWords Go.Proofs.YtmkncddbecmlpaaW.PrintLast

/-- What is taken in two parts is what is taken at once. -/
theorem TapeParts : columbariumlaw07_TapeParts.Pure := by
  intro a0 a1 a2 a3 a4 h0 h1 h2 h3 h4
  refine ⟨2, ?_⟩
  obtain ⟨b, p, ht, hb, hp, hp2, hr⟩ := tape_eq a0 h1 h0
  have hL : leftP b p = (b.size : Int) - p := if_pos hr
  obtain ⟨L, hL2⟩ : ∃ L, (b.size : Int) - p = L := ⟨_, rfl⟩
  have e1 : wrap64 (L + 1) = L + 1 := by unfold wrap64; omega
  obtain ⟨m, hm, hm0, hm1⟩ := pick_eq (n := L + 1) h2 (by omega) (by omega)
  have e2 : wrap64 (L - m) = L - m := by unfold wrap64; omega
  have e3 : wrap64 (L - m + 1) = L - m + 1 := by unfold wrap64; omega
  obtain ⟨n, hn, hn0, hn1⟩ := pick_eq (n := L - m + 1) h3 (by omega) (by omega)
  have e4 : wrap64 (m + n) = m + n := by unfold wrap64; omega
  have e5 : wrap64 (L - m - n) = L - m - n := by unfold wrap64; omega
  have hM : 0 ≤ mn (a4.size : Int) 100 ∧ mn (a4.size : Int) 100 ≤ (a4.size : Int) ∧ mn (a4.size : Int) 100 ≤ 100 := by unfold mn; split <;> omega
  obtain ⟨x, hx⟩ : ∃ x, a4.extract 0 (mn (a4.size : Int) 100).toNat = x := ⟨_, rfl⟩
  have hxs : x.size ≤ 100 := by rw [← hx, extract_size' _ _ _ (by omega)]; omega
  have hr2 : rightB b (p + m) = true := rightB_iff.2 ⟨by omega, by omega, by omega⟩
  have hr3 : rightB (b ++ x) p = true := rightB_iff.2 ⟨by rw [ByteArray.size_append]; omega, by omega, by rw [ByteArray.size_append]; omega⟩
  have hr4 : rightB b (p + (m + n)) = true := rightB_iff.2 ⟨by omega, by omega, by omega⟩
  unfold columbariumlaw07_TapeParts.f
  rw [awake7 0, ht]
  simp only [Option.bind_some]
  rw [left_eq, hL, hL2]
  simp only [Option.bind_some]
  rw [e1, hm]
  simp only [Option.bind_some]
  rw [e2, e3, hn]
  simp only [Option.bind_some]
  rw [e4, take_eq, takeP_ok hr hm0 (by omega)]
  simp only [Option.bind_some]
  rw [take_eq, takeP_ok hr2 hn0 (by omega)]
  simp only [Option.bind_some]
  rw [take_eq, takeP_ok hr (by omega) (by omega), hx]
  simp only [Option.bind_some]
  rw [if_pos hM.1, if_pos hM.2.1, if_pos (by omega), take_eq, takeP_ok hr3 (by omega) (by rw [ByteArray.size_append]; omega)]
  simp only [Option.bind_some]
  rw [take_eq, takeP_short hr (by omega) (by omega)]
  simp only [Option.bind_some]
  have j1 : b.extract p.toNat (p + m).toNat ++ b.extract (p + m).toNat (p + m + n).toNat = b.extract p.toNat (p + (m + n)).toNat := by
    rw [← ByteArray.extract_eq_extract_append_extract, show p + m + n = p + (m + n) from by omega]
    all_goals omega
  have j2 : (b ++ x).extract p.toNat (p + (m + n)).toNat = b.extract p.toNat (p + (m + n)).toNat := by
    have j3 : x.extract (p.toNat - b.size) ((p + (m + n)).toNat - b.size) = ByteArray.empty := ByteArray.extract_eq_empty_iff.2 (by omega)
    rw [ByteArray.extract_append, j3, ByteArray.append_empty]
  have s1 : (b.extract p.toNat (p + m).toNat).size ≤ 500 := by rw [extract_size' _ _ _ (by omega)]; omega
  have s2 : (b.extract (p + m).toNat (p + m + n).toNat).size ≤ 500 := by rw [extract_size' _ _ _ (by omega)]; omega
  rw [if_pos trivial, if_pos trivial, if_pos trivial, if_pos trivial, if_pos trivial, if_pos (by omega), j1, if_pos rfl, if_pos (by rw [show p + m + n = p + (m + n) from by omega]; simp), j2, if_pos rfl, if_pos trivial, if_pos trivial, if_pos (by simp), left_eq, show leftP b (p + (m + n)) = L - m - n from by unfold leftP; rw [if_pos hr4]; omega]
  simp only [Option.bind_some]
  rw [e5]
  simp
end Go.Proofs.Ytmkncddbecmlpaa.Pure
