/-
  TapeKeeps: what is taken, part for part, is the tape's head up to where it stands: the law returns true for every input. No condition.
-/
import Derived.Test.YtmkncddbecmlpaaPrFcolumbariumlaw07TapeKeeps
import Derived.Test.YtmkncddbecmlpaaXAwake
set_option linter.unusedVariables false
namespace Go.Proofs.Ytmkncddbecmlpaa.Pure
open Go.RowKit Go.Proofs.Ytmkncddbecmlpaa.Pr Go.Proofs.YtmkncddbecmlpaaW.PrintWords Go.Proofs.YtmkncddbecmlpaaW.PrintLast Go.Proofs.YtmkncddbecmlpaaW.PrintMore

theorem tape0_eq (a : ByteArray) (hs : a.size ≤ 140737488351232) : ∃ b, columbariumlaw07_Tape.f a 0 = some (b, 0) ∧ b.size ≤ 500 := by
  unfold columbariumlaw07_Tape.f
  have hm : 0 ≤ mn (a.size : Int) 500 ∧ mn (a.size : Int) 500 ≤ (a.size : Int) ∧ mn (a.size : Int) 500 ≤ 500 := by unfold mn; split <;> omega
  have hsz : (a.extract 0 (mn (a.size : Int) 500).toNat).size = (mn (a.size : Int) 500).toNat := by rw [extract_size' _ _ _ (by omega)]; omega
  rw [if_pos hm.1, if_pos hm.2.1]
  have e1 : wrap64 (((a.extract 0 (mn (a.size : Int) 500).toNat).size : Int) + 1) = ((a.extract 0 (mn (a.size : Int) 500).toNat).size : Int) + 1 := by rw [hsz]; unfold wrap64; omega
  rw [e1]
  have hp : ∀ m : Int, 0 < m → columbariumlaw07_pick.f 0 m = some 0 := by
    intro m h
    unfold columbariumlaw07_pick.f
    rw [if_neg (by omega), if_neg (by omega), Int.zero_tmod]
  rw [hp _ (by omega)]
  exact ⟨_, rfl, by rw [hsz]; omega⟩

/-- The end: what was taken is the head. -/
theorem end_ok (k : Nat) (xs : List Int) (b : ByteArray) (hb : b.size ≤ 500) (i p : Int) (hp : 0 ≤ p) (hp2 : p ≤ (b.size : Int)) : columbariumlaw07_TapeKeeps.j1 (k + 1) xs true (b.extract 0 p.toNat) i false b p = some true := by
  have hr : rightB b p = true := rightB_iff.2 ⟨by omega, hp, hp2⟩
  have hL : leftP b p = (b.size : Int) - p := if_pos hr
  simp only [columbariumlaw07_TapeKeeps.j1]
  rw [if_neg (by simp), if_pos trivial, if_pos hp2, if_pos hp, if_pos trivial, left_eq, hL, show wrap64 ((b.size : Int) - p) = (b.size : Int) - p from by unfold wrap64; omega]
  simp

theorem loop_ok (xs : List Int) (hx : ∀ x ∈ xs, (Lit.int .i64 x).wf = true) (b : ByteArray) (hb : b.size ≤ 500) (hxl : xs.length ≤ 9223372036854775807) : ∀ (d i : Nat) (p : Int), 10 ≤ i + d → 0 ≤ p → p ≤ (b.size : Int) →
    columbariumlaw07_TapeKeeps.l0 (2 * d + 2 + 2) xs true (b.extract 0 p.toNat) i b p = some true
  | 0, i, p, hi, hp, hp2 => by
    rw [columbariumlaw07_TapeKeeps.l0]
    by_cases h : (i : Int) < xs.length
    · rw [if_pos h, show decide ((i : Int) < 10) = false from by simp; omega]
      exact end_ok _ xs b hb i p hp hp2
    · rw [if_neg h]
      exact end_ok _ xs b hb i p hp hp2
  | d + 1, i, p, hi, hp, hp2 => by
    have hr : rightB b p = true := rightB_iff.2 ⟨by omega, hp, hp2⟩
    have hL : leftP b p = (b.size : Int) - p := if_pos hr
    rw [show 2 * (d + 1) + 2 + 2 = (2 * d + 2 + 2) + 1 + 1 from by omega, columbariumlaw07_TapeKeeps.l0]
    by_cases h : (i : Int) < xs.length
    · rw [if_pos h]
      by_cases h10 : (i : Int) < 10
      · rw [show decide ((i : Int) < 10) = true from by simp; omega, columbariumlaw07_TapeKeeps.j1, if_pos rfl, if_pos (by omega), if_pos h, left_eq, hL]
        simp only [Option.bind_some]
        have hw : (Lit.int .i64 (rd xs (i : Int))).wf = true := by
          refine hx _ ?_
          unfold rd
          rw [List.getD_eq_getElem?_getD, List.getElem?_eq_getElem (by omega : (i : Int).toNat < xs.length)]
          exact List.getElem_mem _
        rw [show wrap64 ((b.size : Int) - p + 1) = (b.size : Int) - p + 1 from by unfold wrap64; omega]
        obtain ⟨n, hn, hn0, hn1⟩ := pick_eq (n := (b.size : Int) - p + 1) hw (by omega) (by omega)
        rw [hn]
        simp only [Option.bind_some]
        rw [take_eq, takeP_ok hr hn0 (by omega)]
        simp only [Option.bind_some]
        have hs : (b.extract p.toNat (p + n).toNat).size = n.toNat := by rw [extract_size' _ _ _ (by omega)]; omega
        have hs2 : (b.extract 0 p.toNat).size = p.toNat := by rw [extract_size' _ _ _ (by omega)]; omega
        have hr2 : rightB b (p + n) = true := rightB_iff.2 ⟨by omega, by omega, by omega⟩
        have hj : b.extract 0 p.toNat ++ b.extract p.toNat (p + n).toNat = b.extract 0 (p + n).toNat := by
          rw [← ByteArray.extract_eq_extract_append_extract]
          all_goals omega
        rw [if_pos trivial, if_pos trivial, hs, show wrap64 (p + ((n.toNat : Nat) : Int)) = p + n from by unfold wrap64; omega, if_pos rfl, right_eq, hr2]
        simp only [Option.bind_some]
        rw [if_pos trivial, hs2, if_pos (by omega), hj, show wrap64 ((i : Int) + 1) = ((i + 1 : Nat) : Int) from by unfold wrap64; omega]
        exact loop_ok xs hx b hb hxl d (i + 1) (p + n) (by omega) (by omega) (by omega)
      · rw [show decide ((i : Int) < 10) = false from by simp; omega]
        exact end_ok _ xs b hb i p hp hp2
    · rw [if_neg h]
      exact end_ok _ xs b hb i p hp hp2

theorem TapeKeeps : columbariumlaw07_TapeKeeps.Pure := by
  intro a0 l1 h0 h1 h2 h3
  refine ⟨2 * 10 + 2 + 2, ?_⟩
  obtain ⟨b, ht, hb⟩ := tape0_eq a0 h0
  unfold columbariumlaw07_TapeKeeps.f
  rw [awake7, ht]
  simp only [Option.bind_some]
  have he : (⟨#[]⟩ : ByteArray) = b.extract 0 (0 : Int).toNat := by simp; rfl
  rw [he]
  exact loop_ok l1 h3 b hb (by omega) 10 0 0 (by omega) (by omega) (by omega)
end Go.Proofs.Ytmkncddbecmlpaa.Pure
