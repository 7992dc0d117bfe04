/-
  Texts added in parts: what is on its way is that of the whole. Plain laws, no condition beyond those each names.
-/
import Derived.Test.YtajaobebcmlhaaaDoorStays
import Derived.Test.YtajaobebcmlhaaaDoorWhole
namespace Go.Proofs.YtajaobebcmlhaaaDoor.Pr
open Go.Proofs.Sha
set_option linter.unusedVariables false
set_option linter.unusedSimpArgs false
/-- What is on its way behind a text. -/
def st (s : ByteArray) : Hs := ⟨all start8 s, tailOf s, (s.size : Int)⟩
theorem st_right (s : ByteArray) (h : s.size ≤ 1048576) : rightH (st s) = true := by
  rw [rightH_iff]
  refine ⟨by simp [st], by simp [st]; omega, ?_⟩
  show ((tailOf s).size : Int) = (s.size : Int) % 64
  rw [tail_size]; omega
theorem new_st : newH = st ByteArray.empty := rfl
theorem extract_app2 (s t : ByteArray) (i : Nat) (h : i ≤ s.size) : (s ++ t).extract i (s ++ t).size = s.extract i s.size ++ t := by
  apply ByteArray.ext
  simp only [ByteArray.data_extract, ByteArray.data_append, ByteArray.size_append]
  rw [Array.extract_append]
  have h1 : s.data.size = s.size := rfl
  have h2 : t.data.size = t.size := rfl
  congr 1
  · apply Array.ext
    · simp
    · intro j h1 h2; simp
  · rw [h1, show i - s.size = 0 by omega, show s.size + t.size - s.size = t.data.size by omega]; simp
theorem many_two (h : S8) (s t : ByteArray) (k : Nat) (hk : 64 * k ≤ s.size) : ∀ j, 64 * (k + j) ≤ s.size + t.size → many (many h s k) (s.extract (64 * k) s.size ++ t) j = many h (s ++ t) (k + j)
  | 0, _ => by show many h s k = many h (s ++ t) k; rw [many_app h s t k hk]
  | j + 1, hj => by
    show comp (many (many h s k) (s.extract (64 * k) s.size ++ t) j) ((s.extract (64 * k) s.size ++ t).extract (64 * j) (64 * j + 64)) = comp (many h (s ++ t) (k + j)) ((s ++ t).extract (64 * (k + j)) (64 * (k + j) + 64))
    rw [many_two h s t k hk j (by omega), ← extract_app2 s t (64 * k) hk, ByteArray.extract_extract]
    congr 2 <;> first | omega | (rw [ByteArray.size_append]; omega)
theorem tail_at (s : ByteArray) : tailOf s = s.extract (64 * (s.size / 64)) s.size := by
  unfold tailOf; congr 1; omega
theorem all_two (h : S8) (s t : ByteArray) : all (all h s) (tailOf s ++ t) = all h (s ++ t) := by
  have e := many_two h s t (s.size / 64) (by omega) ((tailOf s ++ t).size / 64) (by rw [ByteArray.size_append, tail_size]; omega)
  unfold all
  rw [tail_at] at e ⊢
  rw [e]
  congr 1
  simp only [ByteArray.size_append, ByteArray.size_extract]
  omega
theorem tail_two (s t : ByteArray) : tailOf (tailOf s ++ t) = tailOf (s ++ t) := by
  rw [tail_at (tailOf s ++ t), tail_at s, ← extract_app2 s t _ (by omega), ByteArray.extract_extract]
  rw [tail_at (s ++ t)]
  simp only [ByteArray.size_extract, ByteArray.size_append]
  congr 1 <;> omega
theorem st_add (s t : ByteArray) (h : s.size + t.size ≤ 1048576) : addH (st s) t = (st (s ++ t), 0) := by
  obtain ⟨e, _⟩ := addH_right (st s) t (st_right s (by omega)) (by show ¬ ((1048576 : Int) - (s.size : Int) < _); omega)
  rw [e]
  show ((⟨all (all start8 s) (tailOf s ++ t), tailOf (tailOf s ++ t), (s.size : Int) + (t.size : Int)⟩ : Hs), (0 : Int)) = (⟨all start8 (s ++ t), tailOf (s ++ t), ((s ++ t).size : Int)⟩, 0)
  rw [all_two, tail_two, ByteArray.size_append]
  simp
theorem st_new (t : ByteArray) (h : t.size ≤ 1048576) : addH newH t = (st t, 0) := by
  rw [new_st, st_add _ _ (by show 0 + _ ≤ _; omega), ByteArray.empty_append]
theorem st_sum (t : ByteArray) (h : t.size ≤ 1048576) : sumH t = endH (st t) := by
  unfold sumH
  rw [if_pos (by omega), st_new t h]
theorem st_end (t : ByteArray) (h : t.size ≤ 1048576) : ∃ O, endH (st t) = (O, 0) ∧ O.size = 32 := by
  obtain ⟨e0, e1⟩ := endH_right _ (st_right t h)
  exact ⟨_, Prod.ext rfl e0, e1⟩
theorem cut_app (x : ByteArray) (i j : Nat) (h : i ≤ j) (hj : j ≤ x.size) : x.extract 0 i ++ x.extract i j = x.extract 0 j := by
  apply ByteArray.ext
  simp only [ByteArray.data_extract, ByteArray.data_append]
  rw [Array.extract_append_extract]
  congr 1 <;> omega
end Go.Proofs.YtajaobebcmlhaaaDoor.Pr
