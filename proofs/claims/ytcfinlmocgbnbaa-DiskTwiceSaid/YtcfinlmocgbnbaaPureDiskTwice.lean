/-
  DiskTwice's plain law. Condition: the numbers are int's.
-/
import Derived.Test.YtcfinlmocgbnbaaDisk
import Derived.Test.YtcfinlmocgbnbaaPrFcolumbariumlaw14DiskTwice
import Derived.Test.YtcfinlmocgbnbaaOpen67
set_option linter.unusedVariables false
set_option linter.unusedSimpArgs false
namespace Go.Proofs.Ytcfinlmocgbnbaa.Pure
open Go.RowKit Go.Proofs.Ytcfinlmocgbnbaa.Pr Go.Proofs.YtcfinlmocgbnbaaW.PrintWords Go.Proofs.YtcfinlmocgbnbaaW.PrintLast Go.Proofs.YtcfinlmocgbnbaaW.PrintMore
theorem twice_true (a0 : Int) (l1 : List S67) (l2 : List Int) (h0 : I64 a0) (h1 : wfR l1) : ∃ k, columbariumlaw14_DiskTwice.f k a0 l1 l2 = some true := by
  obtain ⟨k, hk⟩ : ∃ k : Nat, 5000 < k := ⟨5001, by omega⟩
  refine ⟨k, ?_⟩
  obtain ⟨p, hp, p0, p1⟩ := pick_eq h0 (show (0 : Int) < 6 by omega) (by omega)
  obtain ⟨n, hn⟩ : ∃ n : Nat, 1 + p = n := ⟨(1 + p).toNat, by omega⟩
  have hn1 : 1 ≤ n := by omega
  have hn2 : n ≤ 6 := by omega
  have hw : wrap64 (1 + p) = (n : Int) := by unfold wrap64; omega
  obtain ⟨ms, hms, hml, hmg⟩ := moves_eq h1 (n := n) (by omega) hn2 (k := k) (by omega)
  obtain ⟨d1, D1, z1⟩ := do_ok (dsk_new n) hn1 (by omega) hmg (by simp; omega)
  obtain ⟨c1, C1⟩ := crash_ok D1 hn1 (by omega) l2
  obtain ⟨c2, C2⟩ := crash_ok C1 hn1 (by omega) [1, 2, 3]
  obtain ⟨d2, D2, _⟩ := do_ok C1 hn1 (by omega) (l := [⟨true, 0, ⟨#[]⟩⟩]) (fun m hm => by (obtain rfl : m = ⟨true, 0, ⟨#[]⟩⟩ := by simpa using hm); exact sync_good n) (by simp)
  generalize runL (List.replicate n Pr.blank) [] ms = R at *
  obtain ⟨su, so⟩ := R
  dsimp only at d1 D1 z1 c1 C1 c2 C2 d2 D2
  generalize fall su so (cutOf l2) 0 = X at *
  have c2' : disk_Crash.f X [] [1, 2, 3] = some (X, [], 0) := c2
  have d2' : disk_Do.f X [] [⟨true, 0, ⟨#[]⟩⟩] = some (X, [], 0) := d2
  unfold columbariumlaw14_DiskTwice.f
  simp only [awake_ok (show 100 ≤ k by omega), hp, hw, new_ok hn1 (show n ≤ 400 by omega), hms, d1, c1, c2', d2', same_ok C1 (show n ≤ 400 by omega) (show 4000 < k by omega), right_ok C1 hn1 (show n ≤ 400 by omega), Option.bind_some, if_true]
theorem DiskTwice (a0 : Int) (l1 : List S67) (l2 : List Int) (h0 : (Lit.int .i64 a0).wf = true) (h1 : l1.length ≤ maxLen) (h2 : wf67 l1) (h3 : l2.length ≤ maxLen) (h4 : ∀ x ∈ l2, (Lit.int .i64 x).wf = true) : ∃ k, columbariumlaw14_DiskTwice.f k a0 l1 l2 = some true :=
  twice_true a0 l1 l2 (i64_of h0) (fun x hx => ⟨i64_of (h2 x hx).1, i64_of (h2 x hx).2.1, i64_of (h2 x hx).2.2⟩)
end Go.Proofs.Ytcfinlmocgbnbaa.Pure
