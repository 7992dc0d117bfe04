/-
  What Right, Left, Take and Number of a tape answer, in plain terms; the second writing's likewise. No condition but the ones that each lemma names.
-/
import Derived.Test.YtmkncddbecmlpaaPrFtapeNumber
import Derived.Test.YtmkncddbecmlpaaPrFcolumbariumref07Number
import Derived.Laws.BitsLemmas
/-! Plain facts on the printed functions of layer 7: what is taken, and which numbers. -/
set_option linter.unusedVariables false
namespace Go.Proofs.Ytmkncddbecmlpaa.Pr
open Go.RowKit Go.Proofs.YtmkncddbecmlpaaW.PrintWords Go.Proofs.YtmkncddbecmlpaaW.PrintLast Go.Proofs.YtmkncddbecmlpaaW.PrintMore

def rightB (b : ByteArray) (p : Int) : Bool := decide ((b.size : Int) ≤ 65536 ∧ 0 ≤ p ∧ p ≤ (b.size : Int))
def takeP (b : ByteArray) (p n : Int) : ByteArray × ByteArray × Int × Int :=
  if rightB b p = true ∧ 0 ≤ n then (if n > (b.size : Int) - p then (⟨#[]⟩, b, p, 12) else (b.extract p.toNat (p + n).toNat, b, p + n, 0)) else (⟨#[]⟩, b, p, 1)
def numP (b : ByteArray) (p m : Int) : Int × ByteArray × Int × Int :=
  if rightB b p = true ∧ 1 ≤ m ∧ m ≤ 65536 then (if 2 > (b.size : Int) - p then (0, b, p, 12) else ((256 * bt b p + bt b (p + 1)) % m, b, p + 2, 0)) else (0, b, p, 1)

theorem takeP_ok {b : ByteArray} {p n : Int} (h : rightB b p = true) (h0 : 0 ≤ n) (hl : n ≤ (b.size : Int) - p) : takeP b p n = (b.extract p.toNat (p + n).toNat, b, p + n, 0) := by
  unfold takeP; rw [if_pos ⟨h, h0⟩, if_neg (by omega)]
theorem takeP_short {b : ByteArray} {p n : Int} (h : rightB b p = true) (h0 : 0 ≤ n) (hl : n > (b.size : Int) - p) : takeP b p n = (⟨#[]⟩, b, p, 12) := by
  unfold takeP; rw [if_pos ⟨h, h0⟩, if_pos hl]
theorem takeP_bad {b : ByteArray} {p n : Int} (h : ¬ (rightB b p = true ∧ 0 ≤ n)) : takeP b p n = (⟨#[]⟩, b, p, 1) := by
  unfold takeP; rw [if_neg h]
theorem numP_ok {b : ByteArray} {p m : Int} (h : rightB b p = true) (h0 : 1 ≤ m) (h1 : m ≤ 65536) (hl : 2 ≤ (b.size : Int) - p) : numP b p m = ((256 * bt b p + bt b (p + 1)) % m, b, p + 2, 0) := by
  unfold numP; rw [if_pos ⟨h, h0, h1⟩, if_neg (by omega)]
theorem numP_short {b : ByteArray} {p m : Int} (h : rightB b p = true) (h0 : 1 ≤ m) (h1 : m ≤ 65536) (hl : 2 > (b.size : Int) - p) : numP b p m = (0, b, p, 12) := by
  unfold numP; rw [if_pos ⟨h, h0, h1⟩, if_pos hl]
theorem numP_bad {b : ByteArray} {p m : Int} (h : ¬ (rightB b p = true ∧ 1 ≤ m ∧ m ≤ 65536)) : numP b p m = (0, b, p, 1) := by
  unfold numP; rw [if_neg h]

theorem right_eq (b : ByteArray) (p : Int) : tape_Right.f b p = some (rightB b p) := by
  unfold tape_Right.f rightB
  by_cases h1 : (b.size : Int) ≤ 65536
  · by_cases h2 : p ≥ 0
    · rw [if_pos h1, if_pos h2]; simp [h1]; omega
    · rw [if_pos h1, if_neg h2]; simp; omega
  · rw [if_neg h1]; simp; omega
theorem rright_eq (b : ByteArray) (p : Int) : columbariumref07_Right.f b p = some (rightB b p) := right_eq b p
theorem rightB_iff {b : ByteArray} {p : Int} : rightB b p = true ↔ ((b.size : Int) ≤ 65536 ∧ 0 ≤ p ∧ p ≤ (b.size : Int)) := by unfold rightB; simp
def leftP (b : ByteArray) (p : Int) : Int := if rightB b p = true then (b.size : Int) - p else 0
theorem left_eq (b : ByteArray) (p : Int) : tape_Left.f b p = some (leftP b p) := by
  unfold tape_Left.f leftP
  rw [right_eq]
  simp only [Option.bind_some]
  by_cases h : rightB b p = true
  · rw [if_pos h, if_pos h]
    obtain ⟨h1, h2, h3⟩ := rightB_iff.1 h
    congr 1
    unfold wrap64; omega
  · rw [if_neg h, if_neg h]
theorem rleft_eq (b : ByteArray) (p : Int) : columbariumref07_Left.f b p = some (leftP b p) := left_eq b p

theorem extract_twice (b : ByteArray) (i n : Nat) (h : i + n ≤ b.size) : (b.extract i b.size).extract 0 n = b.extract i (i + n) := by
  rw [ByteArray.extract_extract]
  congr 1 <;> omega
theorem extract_size' (b : ByteArray) (i j : Nat) (h : j ≤ b.size) : (b.extract i j).size = j - i := by
  rw [ByteArray.size_extract]; omega

theorem take_eq (b : ByteArray) (p n : Int) (k : Nat) : tape_Take.f (k + 1) b p n = some (takeP b p n) := by
  unfold tape_Take.f
  rw [right_eq]
  simp only [Option.bind_some]
  by_cases h : rightB b p = true
  · obtain ⟨h1, h2, h3⟩ := rightB_iff.1 h
    rw [if_pos h]
    simp only [tape_Take.j0]
    by_cases hn : n < 0
    · rw [if_pos (decide_eq_true hn), takeP_bad (by omega)]
    · rw [if_neg (by simpa using hn), left_eq]
      simp only [Option.bind_some]
      have hL : leftP b p = (b.size : Int) - p := if_pos h
      rw [hL]
      by_cases hl : n > (b.size : Int) - p
      · rw [if_pos hl, takeP_short h (by omega) hl]
      · have e1 : (p.toNat : Int) = p := Int.toNat_of_nonneg h2
        have e2 : (n.toNat : Int) = n := Int.toNat_of_nonneg (by omega)
        rw [if_neg hl, if_pos h2, if_pos h3, if_pos (by omega), if_pos (by rw [extract_size' _ _ _ (Nat.le_refl _)]; omega)]
        rw [extract_twice b p.toNat n.toNat (by omega), show p.toNat + n.toNat = (p + n).toNat from by omega, show wrap64 (p + n) = p + n from by unfold wrap64; omega, takeP_ok h (by omega) (by omega)]
  · rw [if_neg h]
    simp only [tape_Take.j0]
    rw [if_pos (by simpa using h), takeP_bad (by simp [h])]
theorem rtake_eq (b : ByteArray) (p n : Int) (hw : n ≤ 9223372036854775807) (k : Nat) : columbariumref07_Take.f (k + 1) b p n = some (takeP b p n) := by
  unfold columbariumref07_Take.f
  rw [rright_eq]
  simp only [Option.bind_some]
  by_cases h : rightB b p = true
  · obtain ⟨h1, h2, h3⟩ := rightB_iff.1 h
    rw [if_pos h]
    simp only [columbariumref07_Take.j0]
    by_cases hn : n < 0
    · rw [if_pos (decide_eq_true hn), takeP_bad (by omega)]
    · rw [if_neg (by simpa using hn), rleft_eq]
      simp only [Option.bind_some]
      have hL : leftP b p = (b.size : Int) - p := if_pos h
      rw [hL]
      by_cases hl : n > (b.size : Int) - p
      · rw [if_pos hl, takeP_short h (by omega) hl]
      · have e : wrap64 (p + n) = p + n := by unfold wrap64; omega
        rw [if_neg hl, if_pos h2, e, if_pos (by omega), if_pos (by omega), takeP_ok h (by omega) (by omega)]
  · rw [if_neg h]
    simp only [columbariumref07_Take.j0]
    rw [if_pos trivial, takeP_bad (by simp [h])]

theorem bt_extract (b : ByteArray) (i j : Nat) (q : Int) (h0 : 0 ≤ q) (h : i + q.toNat < j) (hj : j ≤ b.size) : bt (b.extract i j) q = bt b (i + q) := by
  have h1 : q.toNat < (b.extract i j).size := by rw [extract_size' _ _ _ hj]; omega
  have h2 : ((i : Int) + q).toNat < b.size := by omega
  have e : ((i : Int) + q).toNat = i + q.toNat := by omega
  unfold bt
  rw [dif_pos h1, dif_pos h2]
  congr 2
  rw [ByteArray.getElem_extract]
  simp only [e]

theorem two_bytes (x y : Int) (hx : 0 ≤ x ∧ x ≤ 255) (hy : 0 ≤ y ∧ y ≤ 255) : Go.bits .or .i64 (wrap64 ((wrap64 x) * 256)) (wrap64 y) = 256 * x + y := by
  have e1 : wrap64 x = x := by unfold wrap64; omega
  have e2 : wrap64 y = y := by unfold wrap64; omega
  have e3 : wrap64 (x * 256) = x * 256 := by unfold wrap64; omega
  rw [e1, e2, e3, bits_join .i64 20 (by decide) (fun n h0 h1 => by rw [IntKind.wrap_i64]; omega) 8 (x * 256) y (by omega) (by omega) (by omega) (by omega) (by omega) (by omega)]
  omega

theorem number_eq (b : ByteArray) (p m : Int) (k : Nat) : tape_Number.f (k + 2) b p m = some (numP b p m) := by
  unfold tape_Number.f
  by_cases h1 : m < 1
  · rw [if_pos h1]
    simp only [tape_Number.j0]
    rw [if_pos trivial, numP_bad (by omega)]
  · rw [if_neg h1]
    simp only [tape_Number.j0]
    by_cases h2 : m > 65536
    · rw [if_pos (decide_eq_true h2), numP_bad (by omega)]
    · rw [if_neg (by simpa using h2), take_eq]
      simp only [Option.bind_some]
      by_cases h : rightB b p = true
      · obtain ⟨h3, h4, h5⟩ := rightB_iff.1 h
        by_cases hl : 2 > (b.size : Int) - p
        · rw [takeP_short h (by omega) hl, numP_short h (by omega) (by omega) hl]; simp
        · rw [takeP_ok h (by omega) (by omega), numP_ok h (by omega) (by omega) (by omega)]
          have hs : (b.extract p.toNat (p + 2).toNat).size = 2 := by rw [extract_size' _ _ _ (by omega)]; omega
          simp only [hs]
          rw [if_pos (by trivial), if_pos (by decide), if_pos (by decide), if_neg (by omega)]
          rw [bt_extract _ _ _ _ (by omega) (by omega) (by omega), bt_extract _ _ _ _ (by omega) (by omega) (by omega)]
          rw [show ((p.toNat : Nat) : Int) + 0 = p from by omega, show ((p.toNat : Nat) : Int) + 1 = p + 1 from by omega]
          have hx := bt_range b p
          have hy := bt_range b (p + 1)
          rw [two_bytes _ _ hx hy, Int.tmod_eq_emod_of_nonneg (by omega)]
      · rw [takeP_bad (by simp [h]), numP_bad (by simp [h])]; simp
theorem rnumber_eq (b : ByteArray) (p m : Int) (k : Nat) : columbariumref07_Number.f (k + 2) b p m = some (numP b p m) := by
  unfold columbariumref07_Number.f
  rw [rright_eq]
  simp only [Option.bind_some]
  by_cases h : rightB b p = true
  · rw [if_pos h]
    obtain ⟨h3, h4, h5⟩ := rightB_iff.1 h
    by_cases h1 : m < 1
    · rw [if_pos h1]
      simp only [columbariumref07_Number.j0]
      rw [if_pos trivial, numP_bad (by omega)]
    · rw [if_neg h1]
      simp only [columbariumref07_Number.j0]
      by_cases h2 : m > 65536
      · rw [if_pos (decide_eq_true h2), numP_bad (by omega)]
      · rw [if_neg (by simpa using h2), rtake_eq _ _ _ (by omega)]
        simp only [Option.bind_some]
        by_cases hl : 2 > (b.size : Int) - p
        · rw [takeP_short h (by omega) hl, numP_short h (by omega) (by omega) hl]; simp
        · rw [takeP_ok h (by omega) (by omega), numP_ok h (by omega) (by omega) (by omega)]
          have hs : (b.extract p.toNat (p + 2).toNat).size = 2 := by rw [extract_size' _ _ _ (by omega)]; omega
          simp only [hs]
          rw [if_pos (by trivial), if_pos (by decide), if_pos (by decide), if_neg (by omega)]
          rw [bt_extract _ _ _ _ (by omega) (by omega) (by omega), bt_extract _ _ _ _ (by omega) (by omega) (by omega)]
          rw [show ((p.toNat : Nat) : Int) + 0 = p from by omega, show ((p.toNat : Nat) : Int) + 1 = p + 1 from by omega]
          have hx := bt_range b p
          have hy := bt_range b (p + 1)
          have e1 : wrap64 (bt b p) = bt b p := by unfold wrap64; omega
          have e2 : wrap64 (bt b (p + 1)) = bt b (p + 1) := by unfold wrap64; omega
          have e3 : wrap64 (256 * bt b p) = 256 * bt b p := by unfold wrap64; omega
          have e4 : wrap64 (256 * bt b p + bt b (p + 1)) = 256 * bt b p + bt b (p + 1) := by unfold wrap64; omega
          rw [e1, e2, e3, e4, Int.tmod_eq_emod_of_nonneg (by omega)]
  · rw [if_neg h]
    simp only [columbariumref07_Number.j0]
    rw [if_pos trivial, numP_bad (by simp [h])]
end Go.Proofs.Ytmkncddbecmlpaa.Pr
