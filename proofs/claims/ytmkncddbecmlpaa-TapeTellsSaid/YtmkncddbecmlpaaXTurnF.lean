/-
  What Turn's loop comes to, in plain lists. No condition.
-/
import Derived.Test.YtmkncddbecmlpaaTape
/-! What Turn's loop comes to, in plain lists. -/
set_option linter.unusedVariables false
namespace Go.Proofs.Ytmkncddbecmlpaa.Pr
open Go.RowKit Go.Proofs.YtmkncddbecmlpaaW.PrintWords

/-- One round: a number is drawn, two things change places; or an error. -/
def turnStep (s : List Int × ByteArray × Int) (i : Int) : (List Int × ByteArray × Int) ⊕ Int :=
  if (numP s.2.1 s.2.2 (i + 1)).2.2.2 = 0 then .inl ((s.1.set (numP s.2.1 s.2.2 (i + 1)).1.toNat (rd s.1 i)).set i.toNat (rd s.1 (numP s.2.1 s.2.2 (i + 1)).1), (numP s.2.1 s.2.2 (i + 1)).2.1, (numP s.2.1 s.2.2 (i + 1)).2.2.1) else .inr (numP s.2.1 s.2.2 (i + 1)).2.2.2
/-- k rounds, from the last place of n on. -/
def turnRun (n : Nat) : Nat → List Int × ByteArray × Int → (List Int × ByteArray × Int) ⊕ Int
  | 0, s => .inl s
  | k + 1, s => match turnRun n k s with | .inl s' => turnStep s' ((n : Int) - 1 - k) | .inr e => .inr e
def tape_Turn.rest (b : ByteArray) (p : Int) (l : List Int) (b' : ByteArray) (p' : Int) (l1 : List Int) : Option (List Int × ByteArray × Int × Int) :=
  match turnRun l1.length (l1.length - 1) (l, b', p') with | .inl s => some (s.1, s.2.1, s.2.2, 0) | .inr e => some ([], b, p, e)

theorem numP_err {b : ByteArray} {p m : Int} (hm : 1 ≤ m) : (numP b p m).2.2.2 = 0 → 0 ≤ (numP b p m).1 ∧ (numP b p m).1 < m := by
  unfold numP
  split
  · split
    · intro h; simp at h
    · intro _; exact ⟨Int.emod_nonneg _ (by omega), Int.emod_lt_of_pos _ (by omega)⟩
  · intro h; simp at h
theorem turnStep_len {s s' : List Int × ByteArray × Int} {i : Int} (h : turnStep s i = .inl s') : s'.1.length = s.1.length := by
  unfold turnStep at h
  split at h
  · injection h with h; subst h; simp
  · cases h
theorem turnRun_len {n : Nat} : ∀ {k : Nat} {s s' : List Int × ByteArray × Int}, turnRun n k s = .inl s' → s'.1.length = s.1.length
  | 0, s, s', h => by injection h with h; subst h; rfl
  | k + 1, s, s', h => by
    simp only [turnRun] at h
    cases hr : turnRun n k s with
    | inl q => rw [hr] at h; exact (turnStep_len h).trans (turnRun_len hr)
    | inr e => rw [hr] at h; cases h
theorem turnRun_stop {n k : Nat} {s : List Int × ByteArray × Int} {e : Int} (h : turnRun n k s = .inr e) : ∀ j, turnRun n (k + j) s = .inr e
  | 0 => h
  | j + 1 => by
    show (match turnRun n (k + j) s with | .inl s' => turnStep s' ((n : Int) - 1 - ((k + j : Nat) : Int)) | .inr e => .inr e) = _
    rw [turnRun_stop h j]
end Go.Proofs.Ytmkncddbecmlpaa.Pr
