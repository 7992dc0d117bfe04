/-
  The reference's Derive. No condition but the ones that each lemma names.
-/
import Derived.Test.YtajaobebcmlhaaaDoorRefMac
import Derived.Test.YtajaobebcmlhaaaDoorDerI
namespace Go.Proofs.YtajaobebcmlhaaaDoor.Pr
open Go.RowKit Go.Shelf Go.Proofs.YtajaobebcmlhaaaDoor.XB Go.Proofs.Sha Go.Proofs.YtajaobebcmlhaaaDoorW.PrintWords
attribute [local go_sem] Oper.semAt_some
set_option linter.unusedVariables false
set_option linter.unusedSimpArgs false
set_option maxRecDepth 100000
theorem refder_e (k m : ByteArray) (n : Int) (w : World) (h : ¬ ((k.size ≤ 1000 ∧ m.size ≤ 1000) ∧ 0 ≤ n ∧ n ≤ 4096)) :
    Calls Tryd.prog 34 #[.string k, .string m, .int .i64 n] w fun e w' => e = .returned (.tuple #[.string ByteArray.empty, .int .i64 1]) ∧ Below w.heap.size w w' := by
  by_cases h1 : (k.size : Int) ≤ 1000
  · have h1' : ¬ ((1000 : Int) < (k.size : Int)) := by omega
    by_cases h2 : (m.size : Int) ≤ 1000
    · have h2' : ¬ ((1000 : Int) < (m.size : Int)) := by omega
      by_cases h3 : n < 0
      · go_enter Tryd.func34, Tryd.ntmps34
        go_wp2
        go_ret2
        exact ⟨rfl, Below.refl _ _⟩
      · have h4 : 4096 < n := by omega
        go_enter Tryd.func34, Tryd.ntmps34
        go_wp2
        go_ret2
        exact ⟨rfl, Below.refl _ _⟩
    · have h2' : (1000 : Int) < (m.size : Int) := by omega
      go_enter Tryd.func34, Tryd.ntmps34
      go_wp2
      go_ret2
      exact ⟨rfl, Below.refl _ _⟩
  · have h1' : (1000 : Int) < (k.size : Int) := by omega
    go_enter Tryd.func34, Tryd.ntmps34
    go_wp2
    go_ret2
    exact ⟨rfl, Below.refl _ _⟩
set_option maxHeartbeats 4000000 in
theorem refder_ok (k m : ByteArray) (n : Nat) (w : World) (hk : k.size ≤ 1000) (hm : m.size ≤ 1000) (hn : n ≤ 4096) :
    Calls Tryd.prog 34 #[.string k, .string m, .int .i64 (n : Int)] w fun e w' => e = .returned (.tuple #[.string ((dall k m ((n + 31) / 32)).extract 0 n), .int .i64 0]) ∧ Below w.heap.size w w' := by
  have h1' : ¬ ((1000 : Int) < (k.size : Int)) := by omega
  have h2' : ¬ ((1000 : Int) < (m.size : Int)) := by omega
  have h3' : ¬ ((n : Int) < 0) := by omega
  have h4' : ¬ ((4096 : Int) < (n : Int)) := by omega
  go_enter Tryd.func34, Tryd.ntmps34
  go_wp2
  obtain ⟨M, hM⟩ : ∃ M, (n + 31) / 32 = M := ⟨_, rfl⟩
  go_loopw [8, 9, 10] (fun v8 v9 v10 X => ∃ i : Nat, i ≤ M ∧ v8 = .string (dall k m i) ∧ v9 = .string (dpart k m i) ∧ v10 = .int .i64 ((i : Int) + 1) ∧ Below w.heap.size w X)
    (fun _ _ v10 _ => M + 1 - (intOf v10).toNat)
  case atStart => exact ⟨0, by omega, rfl, rfl, rfl, Below.refl _ _⟩
  case round =>
    obtain ⟨i, hi, rfl, rfl, rfl, hB⟩ := hrel
    have hds := dall_size k m hk hm i
    by_cases hlt : i < M
    · have hl : ((dall k m i).size : Int) < (n : Int) := by omega
      have hle := (dpart_le k m hk hm i).1
      have hps := (dpart_le k m hk hm (i + 1)).2 (by omega)
      have HT := Lib.hid (fun W => tag_calls k (dpart k m i ++ m ++ ⟨#[UInt8.ofNat (i + 1)]⟩) W)
      have HT' : Hid (∀ W, Calls Tryd.prog 38 #[.string k, .string (dpart k m i ++ m ++ ⟨#[UInt8.ofNat (i + 1)]⟩)] W fun e w' => e = .returned (.string (dpart k m (i + 1))) ∧ Below W.heap.size W w') := Lib.hid (fun W => HT.out W)
      have HDA := Lib.hid (show dall k m (i + 1) = dall k m i ++ dpart k m (i + 1) from rfl)
      have hmd : ((i : Int) + 1).tmod 256 = (i : Int) + 1 := by rw [Int.tmod_eq_emod_of_nonneg (by omega)]; omega
      have kc : ∀ (W : World) (g : Nat), W.cell? ⟨g, 0, none⟩ = some (.int .u8 ((i : Int) + 1)) → Sem.run Tryd.prog (convert 44 9 (.slice (some ⟨g, 0, none⟩) 1 1)) W = .ok (.string ⟨#[UInt8.ofNat (i + 1)]⟩) W := fun W g h => conv_n (i + 1) W g h
      have q1 : ¬ 9223372036854775807 < (dpart k m i).size + m.size := by omega
      have q2 : ¬ 9223372036854775807 < (dpart k m i).size + m.size + 1 := by omega
      have q3 : ¬ 9223372036854775807 < (dall k m i).size + (dpart k m (i + 1)).size := by omega
      clear HT
      generalize UInt8.ofNat (i + 1) = y at *
      generalize hdi : dpart k m i = di at *
      generalize hdj : dpart k m (i + 1) = dj at *
      generalize hda : dall k m i = da at *
      have HDJ := Lib.hid hdj
      clear hdi hdj hda
      go_wp2_with (go_at_call 38; with_reducible refine (HT'.out _).mono ?_; rintro e W1 ⟨rfl, hb⟩; have HB1 := Lib.hid hb; clear hb)
      go_roundw
      case rel => exact ⟨i + 1, by omega, by rw [HDA.out], by rw [HDJ.out], congrArg (Value.int .i64) (by omega), (below_alloc hB _).trans (HB1.out.mono (below_alloc hB _).size)⟩
      case measure => simp [intOf]; omega
    · obtain rfl : i = M := by omega
      have hl : ¬ ((dall k m i).size : Int) < (n : Int) := by omega
      have hnT : (n : Int) ≤ ((dall k m i).size : Int) := by omega
      have HMM := Lib.hid hM
      generalize hT : dall k m i = T at *
      have HTE := Lib.hid hT
      clear hM hT
      go_wp2
      go_ret2
      exact ⟨by rw [HMM.out, HTE.out]; first | done | rfl, hB⟩
theorem refder_calls (k m : ByteArray) (n : Int) (w : World) :
    Calls Tryd.prog 34 #[.string k, .string m, .int .i64 n] w fun e w' => e = .returned (.tuple #[.string (derH k m n).1, .int .i64 (derH k m n).2]) ∧ Below w.heap.size w w' := by
  unfold derH
  by_cases h : (k.size ≤ 1000 ∧ m.size ≤ 1000) ∧ 0 ≤ n ∧ n ≤ 4096
  · rw [if_pos h]
    obtain ⟨⟨h1, h2⟩, h3, h4⟩ := h
    have := refder_ok k m n.toNat w h1 h2 (by omega)
    rw [show ((n.toNat : Nat) : Int) = n by omega] at this
    exact this
  · rw [if_neg h]; exact refder_e k m n w h
end Go.Proofs.YtajaobebcmlhaaaDoor.Pr
