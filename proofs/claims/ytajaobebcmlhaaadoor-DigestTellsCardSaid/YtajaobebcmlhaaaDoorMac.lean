/-
  Tags and what is derived, in plain words. Plain laws, no condition beyond those each names.
-/
import Derived.Test.YtajaobebcmlhaaaDoorParts
import Derived.Test.YtajaobebcmlhaaaDoorSum
namespace Go.Proofs.YtajaobebcmlhaaaDoor.Pr
open Go.Proofs.Sha
set_option linter.unusedVariables false
set_option linter.unusedSimpArgs false
/-- Bytes, each mixed with one. -/
def mixB (s : ByteArray) (b : UInt8) : ByteArray := ⟨(s.data.toList.map (· ^^^ b)).toArray⟩
theorem mixB_size (s : ByteArray) (b : UInt8) : (mixB s b).size = s.size := by
  show (s.data.toList.map (· ^^^ b)).toArray.size = s.data.size
  simp
/-- Noughts behind a key. -/
def zpad (k : ByteArray) : ByteArray := k ++ ⟨(List.replicate (64 - k.size) 0).toArray⟩
theorem rep_size (n : Nat) : (⟨(List.replicate n (0 : UInt8)).toArray⟩ : ByteArray).size = n := by
  show (List.replicate n (0 : UInt8)).toArray.size = n
  simp
theorem zpad_size (k : ByteArray) (h : k.size ≤ 64) : (zpad k).size = 64 := by
  unfold zpad; rw [ByteArray.size_append, rep_size]; omega
def keyB (k : ByteArray) : ByteArray := if 64 < k.size then (sumH k).1 else k
theorem sum_size (t : ByteArray) (h : t.size ≤ 1048576) : (sumH t).1.size = 32 ∧ (sumH t).2 = 0 := by
  obtain ⟨O, e, hO⟩ := st_end t h
  rw [st_sum t h, e]
  exact ⟨hO, rfl⟩
theorem keyB_size (k : ByteArray) (h : k.size ≤ 1000) : (keyB k).size ≤ 64 := by
  unfold keyB
  split
  · rw [(sum_size k (by omega)).1]; omega
  · omega
/-- What two texts are summed to. -/
def hsum (a b : ByteArray) : ByteArray := (endH (addH (addH newH a).1 b).1).1
theorem hsum_eq (a b : ByteArray) (h : a.size + b.size ≤ 1048576) : hsum a b = (sumH (a ++ b)).1 := by
  unfold hsum
  rw [st_new a (by omega), st_add a b h, st_sum (a ++ b) (by rw [ByteArray.size_append]; omega)]
def tagB (k s : ByteArray) : ByteArray := (sumH (mixB (zpad (keyB k)) 92 ++ (sumH (mixB (zpad (keyB k)) 54 ++ s)).1)).1
/-- A tag; and the error. -/
def macH (k s : ByteArray) : ByteArray × Int := if 1000 < k.size then (ByteArray.empty, 1) else if 1048512 < s.size then (ByteArray.empty, 2) else (tagB k s, 0)
theorem tagB_size (k s : ByteArray) (hk : k.size ≤ 1000) (hs : s.size ≤ 1048512) : (tagB k s).size = 32 := by
  unfold tagB
  have h1 := zpad_size _ (keyB_size k hk)
  have h2 := sum_size (mixB (zpad (keyB k)) 54 ++ s) (by rw [ByteArray.size_append, mixB_size, h1]; omega)
  exact (sum_size _ (by rw [ByteArray.size_append, mixB_size, h1, h2.1]; omega)).1
theorem tag_two (k s : ByteArray) (hk : k.size ≤ 1000) (hs : s.size ≤ 1048512) : hsum (mixB (zpad (keyB k)) 92) (hsum (mixB (zpad (keyB k)) 54) s) = tagB k s := by
  have h1 := zpad_size _ (keyB_size k hk)
  have h2 := sum_size (mixB (zpad (keyB k)) 54 ++ s) (by rw [ByteArray.size_append, mixB_size, h1]; omega)
  rw [hsum_eq _ s (by rw [mixB_size, h1]; omega), hsum_eq _ _ (by rw [mixB_size, h1, h2.1]; omega)]
  rfl
/-- The parts of what is derived. -/
def dpart (k m : ByteArray) : Nat → ByteArray
  | 0 => ByteArray.empty
  | i + 1 => (macH k (dpart k m i ++ m ++ ⟨#[UInt8.ofNat (i + 1)]⟩)).1
def dall (k m : ByteArray) : Nat → ByteArray
  | 0 => ByteArray.empty
  | i + 1 => dall k m i ++ dpart k m (i + 1)
theorem one_size (b : UInt8) : (⟨#[b]⟩ : ByteArray).size = 1 := rfl
theorem dpart_le (k m : ByteArray) (hk : k.size ≤ 1000) (hm : m.size ≤ 1000) : ∀ i, (dpart k m i).size ≤ 32 ∧ (0 < i → (dpart k m i).size = 32)
  | 0 => ⟨by show 0 ≤ 32; omega, by omega⟩
  | i + 1 => by
    have h := (dpart_le k m hk hm i).1
    have e : (dpart k m (i + 1)).size = 32 := by
      unfold dpart macH
      have hs : (dpart k m i ++ m ++ ⟨#[UInt8.ofNat (i + 1)]⟩).size ≤ 1048512 := by rw [ByteArray.size_append, ByteArray.size_append, one_size]; omega
      rw [if_neg (by omega), if_neg (by omega)]
      exact tagB_size k _ hk hs
    exact ⟨by omega, fun _ => e⟩
theorem dall_size (k m : ByteArray) (hk : k.size ≤ 1000) (hm : m.size ≤ 1000) : ∀ i, (dall k m i).size = 32 * i
  | 0 => rfl
  | i + 1 => by rw [dall, ByteArray.size_append, dall_size k m hk hm i, (dpart_le k m hk hm (i + 1)).2 (by omega)]; omega
/-- What is derived; and the error. -/
def derH (k m : ByteArray) (n : Int) : ByteArray × Int :=
  if (k.size ≤ 1000 ∧ m.size ≤ 1000) ∧ 0 ≤ n ∧ n ≤ 4096 then ((dall k m ((n.toNat + 31) / 32)).extract 0 n.toNat, 0) else (ByteArray.empty, 1)
end Go.Proofs.YtajaobebcmlhaaaDoor.Pr
