/-
  Texts of whole blocks: one block more is one compression more. No condition beyond those each law names.
-/
import Derived.Test.YtajaobebcmlhaaaDoorStays
namespace Go.Proofs.YtajaobebcmlhaaaDoor.Pr
open Go.Proofs.Sha
set_option linter.unusedVariables false
set_option linter.unusedSimpArgs false
theorem extract_app (t b : ByteArray) (i j : Nat) (h : j ≤ t.size) : (t ++ b).extract i j = t.extract i j := by
  apply ByteArray.ext
  simp only [ByteArray.data_extract, ByteArray.data_append]
  rw [Array.extract_append]
  have h' : j ≤ t.data.size := h
  simp [Nat.sub_eq_zero_of_le h']
  have : j - t.size = 0 := Nat.sub_eq_zero_of_le h
  omega
theorem extract_app_r (t b : ByteArray) (i j : Nat) (hi : t.size = i) (hj : t.size + b.size = j) : (t ++ b).extract i j = b := by
  apply ByteArray.ext
  simp only [ByteArray.data_extract, ByteArray.data_append]
  rw [Array.extract_append]
  have h1 : t.data.size = i := hi
  have h2 : b.data.size = b.size := rfl
  subst hi
  subst hj
  have e1 : t.data.extract t.size (t.size + b.size) = #[] := by simp
  rw [e1]
  have e2 : t.size - t.data.size = 0 := Nat.sub_self _
  have e3 : t.size + b.size - t.data.size = b.data.size := Nat.add_sub_cancel_left ..
  rw [e2, e3]
  simp
theorem many_app (h : S8) (t b : ByteArray) : ∀ k, 64 * k ≤ t.size → many h (t ++ b) k = many h t k
  | 0, _ => rfl
  | k + 1, hk => by
    show comp (many h (t ++ b) k) ((t ++ b).extract (64 * k) (64 * k + 64)) = comp (many h t k) (t.extract (64 * k) (64 * k + 64))
    rw [many_app h t b k (by omega), extract_app t b (64 * k) (64 * k + 64) (by omega)]
theorem all_app (h : S8) (t b : ByteArray) (k : Nat) (ht : t.size = 64 * k) (hb : b.size = 64) : all h (t ++ b) = comp (all h t) b := by
  unfold all
  rw [ByteArray.size_append, show (t.size + b.size) / 64 = k + 1 by omega, show t.size / 64 = k by omega]
  show comp (many h (t ++ b) k) ((t ++ b).extract (64 * k) (64 * k + 64)) = _
  rw [many_app h t b k (by omega), extract_app_r t b (64 * k) (64 * k + 64) (by omega) (by omega)]
end Go.Proofs.YtajaobebcmlhaaaDoor.Pr
