/-
  The iterator behind tape.down tells n - 1, .., 1. Condition: n is a number of this machine.
-/
import Derived.Test.YtmkncddbecmlpaaXBase
namespace Go.Proofs.Ytmkncddbecmlpaa.Pr
open Go.RowKit Go.Shelf Go.Proofs.Ytmkncddbecmlpaa.XB
open Go.Proofs.YtmkncddbecmlpaaW.PrintWords (blk_cell blk_lt)
attribute [local go_sem] Oper.semAt_some
set_option linter.unusedVariables false

set_option maxRecDepth 100000 in
set_option maxHeartbeats 2000000 in
/-- 'for i := n - 1; i > 0; i-- { if !yield(i) { return } }': the places from the last one to the second one. -/
theorem down1_seq (F : Fence) (m : Nat) (h68 : F.fn 68) (hro : F.round = none) (hm : 1 ≤ m) (Bn n : Nat) (hnx : n ≤ 1000) :
    IterSeq F m Try.prog 68 #[.pointer (some ⟨Bn, 0, none⟩)] (fun k => #[.int .i64 ((n : Int) - 1 - k)]) (n - 1) (fun W => W.heap[Bn]? = some (.cells #[.int .i64 n] 3 (0, 0))) (fun _ _ => False) (fun _ _ => True) := by
  intro l J Jx W hS _ _ hY h0
  have hBn : W.cell? ⟨Bn, 0, none⟩ = some (.int .i64 n) := (blk_cell hS 0).trans rfl
  refine callsIn_of_wp Try.func68 rfl h68 ?_ hro
  simp only [Try.ntmps68, List.size_toArray, List.length_cons, List.length_nil, Nat.reduceAdd, Nat.reduceSub, Array.replicate_succ, Array.replicate_zero, List.push_toArray, List.append_toArray, List.nil_append, List.cons_append]
  gi_wp2
  gi_loopw [3] (fun i wr => ∃ k : Nat, k ≤ n - 1 ∧ i = .int .i64 ((n : Int) - 1 - k) ∧ J k wr)
    (fun i _ => (intOf i).toNat)
  case atStart => exact ⟨0, by omega, by simp, h0⟩
  case round =>
    obtain ⟨k, hk, rfl, hJs⟩ := hrel
    by_cases hlt : k + 1 < n
    · obtain ⟨fn, tmps, assign, body, hy, hR⟩ := hY k wr hJs (by omega)
      gi_wp2
      refine hR.mono ?_
      rintro e W3 (⟨rfl, hJ3, hk3⟩ | ⟨rfl, hJx3⟩)
      · gi_wp2
        go_roundw
        case rel => exact ⟨k + 1, by omega, by simp; omega, hJ3⟩
        case measure => simp [intOf]; omega
      · gi_wp2
        refine bodyPost_ret (results_none rfl _ _ _) rfl ?_
        exact ⟨⟨_, rfl⟩, .inr ⟨k + 1, by omega, hJx3⟩⟩
    · obtain rfl : k = n - 1 := by omega
      gi_wp2
      go_end0
      exact ⟨⟨_, rfl⟩, .inl hJs⟩

set_option maxHeartbeats 1000000 in
theorem down_calls (n : Int) (w : World) :
    Calls Try.prog 46 #[.int .i64 n] w fun e w' => e = .returned (.func (.func 68) #[] #[.pointer (some ⟨w.heap.size, 0, none⟩)]) ∧ w' = w.alloc (.cells #[.int .i64 n] 3) := by
  go_enter Try.func46, Try.ntmps46
  go_wp2
  go_ret
  exact ⟨rfl, rfl⟩
end Go.Proofs.Ytmkncddbecmlpaa.Pr
