/-
  What layer 7's laws share: they are awake, and each reads a tape of at most 500 bytes from a place within. No condition.
-/
import Derived.Test.YtmkncddbecmlpaaPrFcolumbariumlaw07awake
import Derived.Test.YtmkncddbecmlpaaPrFcolumbariumlaw07pick
import Derived.Test.YtmkncddbecmlpaaPrFcolumbariumlaw07Tape
import Derived.Test.YtmkncddbecmlpaaTape
import Derived.OpenShut
/-! What the laws of layer 7 share: their proof of being awake, and the tape they read. -/
set_option linter.unusedVariables false
namespace Go.Proofs.Ytmkncddbecmlpaa.Pr
open Go.RowKit Go.Proofs.YtmkncddbecmlpaaW.PrintWords Go.Proofs.YtmkncddbecmlpaaW.PrintLast Go.Proofs.YtmkncddbecmlpaaW.PrintMore

def tape5 : ByteArray := ⟨#[1, 2, 120, 121, 122]⟩
theorem bt5 (j : Int) (h0 : 0 ≤ j) (h : j < 5) : bt tape5 j = ([1, 2, 120, 121, 122].getD j.toNat 0 : Int) := by
  obtain ⟨n, rfl⟩ := Int.eq_ofNat_of_zero_le h0
  have hn : n < 5 := by omega
  match n, hn with
  | 0, _ => rfl
  | 1, _ => rfl
  | 2, _ => rfl
  | 3, _ => rfl
  | 4, _ => rfl
theorem num5a : numP tape5 0 100 = (58, tape5, 2, 0) := by
  rw [numP_ok (by rfl) (by decide) (by decide) (by decide), bt5 _ (by decide) (by decide), bt5 _ (by decide) (by decide)]
  rfl
theorem num5b : numP tape5 0 2 = (0, tape5, 2, 0) := by
  rw [numP_ok (by rfl) (by decide) (by decide) (by decide), bt5 _ (by decide) (by decide), bt5 _ (by decide) (by decide)]
  rfl
theorem turn5 : tape_Turn.f tape5 0 [7, 8] = some ([8, 7], tape5, 2, 0) := by
  unfold tape_Turn.f
  rw [right_eq]
  simp only [Option.bind_some]
  rw [if_pos (by rfl), if_neg (by decide)]
  show (slices_Clone_int_int.f [7, 8]).bind _ = _
  rw [show slices_Clone_int_int.f [7, 8] = some [7, 8] from by unfold slices_Clone_int_int.f; rw [if_pos (by decide)]]
  simp only [Option.bind_some]
  have h : turnRun 2 1 ([7, 8], tape5, 0) = .inl ([8, 7], tape5, 2) := by
    show turnStep ([7, 8], tape5, 0) 1 = _
    unfold turnStep
    rw [show (1 : Int) + 1 = 2 from rfl]
    simp only [num5b]
    rfl
  have h' : turnRun ([7, 8] : List Int).length (([7, 8] : List Int).length - 1) ([7, 8], tape5, 0) = .inl ([8, 7], tape5, 2) := h
  unfold tape_Turn.rest
  rw [h']
theorem awake7 (k : Nat) : columbariumlaw07_awake.f (k + 2) = some true := by
  have t1 : tape_Take.f (k + 2) tape5 2 2 = some (⟨#[120, 121]⟩, tape5, 4, 0) := by rw [take_eq]; rfl
  have t2 : tape_Take.f (k + 2) tape5 4 2 = some (⟨#[]⟩, tape5, 4, 12) := by rw [take_eq]; rfl
  have t3 : tape_Take.f (k + 2) tape5 4 (-1) = some (⟨#[]⟩, tape5, 4, 1) := by rw [take_eq]; rfl
  show columbariumlaw07_awake.f (k + 2) = some true
  unfold columbariumlaw07_awake.f
  change ((tape_Number.f (k + 2) tape5 0 100).bind fun bt140002 => _) = _
  rw [number_eq, num5a]
  simp only [Option.bind_some]
  rw [t1]
  simp only [Option.bind_some]
  change ((tape_Turn.f tape5 0 [7, 8]).bind fun bt140015 => _) = _
  rw [turn5]
  simp only [Option.bind_some]
  rw [t2, t3]
  simp only [Option.bind_some]
  rw [left_eq]
  have t4 : tape_Right.f (⟨#[1, 2, 120, 121, 122]⟩ : ByteArray) 0 = some true := by rw [right_eq]; rfl
  have t5 : tape_Right.f (⟨#[]⟩ : ByteArray) 1 = some false := by rw [right_eq]; rfl
  rw [t4, t5]
  simp only [Option.bind_some]
  have t6 : (⟨#[120, 121]⟩ : ByteArray).toList = [120, 121] := by rw [ByteArray.toList_eq]
  rw [if_pos trivial, if_pos trivial, if_pos t6, if_pos trivial, show leftP tape5 4 = 1 from rfl]
  rfl

theorem pick_eq {a n : Int} (hw : (Lit.int .i64 a).wf = true) (hn : 0 < n) (hn2 : n ≤ 9223372036854775807) : ∃ r, columbariumlaw07_pick.f a n = some r ∧ 0 ≤ r ∧ r < n := by
  unfold columbariumlaw07_pick.f
  have hr : -9223372036854775808 ≤ a ∧ a ≤ 9223372036854775807 := by
    exact bounds_i64 hw
  by_cases h : a < 0
  · have e1 : wrap64 (a + 1) = a + 1 := by unfold wrap64; omega
    have e2 : wrap64 (-(a + 1)) = -(a + 1) := by unfold wrap64; omega
    rw [if_pos h, if_neg (by omega), e1, e2, Int.tmod_eq_emod_of_nonneg (by omega)]
    exact ⟨_, rfl, Int.emod_nonneg _ (by omega), Int.emod_lt_of_pos _ hn⟩
  · rw [if_neg h, if_neg (by omega), Int.tmod_eq_emod_of_nonneg (by omega)]
    exact ⟨_, rfl, Int.emod_nonneg _ (by omega), Int.emod_lt_of_pos _ hn⟩
/-- The tape that a law reads: at most 500 bytes, and read from a place within. -/
theorem tape_eq (a : ByteArray) {n : Int} (hw : (Lit.int .i64 n).wf = true) (hs : a.size ≤ 140737488351232) : ∃ b p, columbariumlaw07_Tape.f a n = some (b, p) ∧ b.size ≤ 500 ∧ 0 ≤ p ∧ p ≤ (b.size : Int) ∧ rightB b p = true := by
  unfold columbariumlaw07_Tape.f
  have hm : 0 ≤ mn (a.size : Int) 500 ∧ mn (a.size : Int) 500 ≤ (a.size : Int) ∧ mn (a.size : Int) 500 ≤ 500 := by unfold mn; split <;> omega
  have hsz : (a.extract 0 (mn (a.size : Int) 500).toNat).size = (mn (a.size : Int) 500).toNat := by rw [extract_size' _ _ _ (by omega)]; omega
  rw [if_pos hm.1, if_pos hm.2.1]
  have e1 : wrap64 (((a.extract 0 (mn (a.size : Int) 500).toNat).size : Int) + 1) = ((a.extract 0 (mn (a.size : Int) 500).toNat).size : Int) + 1 := by rw [hsz]; unfold wrap64; omega
  rw [e1]
  obtain ⟨r, hr, h0, h1⟩ := pick_eq (n := ((a.extract 0 (mn (a.size : Int) 500).toNat).size : Int) + 1) hw (by omega) (by rw [hsz]; omega)
  rw [hr]
  refine ⟨_, r, rfl, by rw [hsz]; omega, h0, by omega, rightB_iff.2 ⟨by rw [hsz]; omega, h0, by omega⟩⟩
end Go.Proofs.Ytmkncddbecmlpaa.Pr
