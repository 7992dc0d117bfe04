/-
  The law MacParts: walked. Condition: the words of the rounds lie where the program has them; the number is an int's.
-/
import Derived.Test.YtajaobebcmlhaaaDoorRefMac
import Derived.Test.YtajaobebcmlhaaaDoorBegins
import Derived.Test.YtajaobebcmlhaaaDoorLong
namespace Go.Proofs.YtajaobebcmlhaaaDoor.Pr
open Go.RowKit Go.Shelf Go.Proofs.YtajaobebcmlhaaaDoor.XB Go.Proofs.Sha Go.Proofs.YtajaobebcmlhaaaDoorW.PrintWords
attribute [local go_sem] Oper.semAt_some
set_option linter.unusedVariables false
set_option linter.unusedSimpArgs false
set_option maxRecDepth 100000
theorem dpart_next (k s : ByteArray) (i : Nat) : dpart k s (i + 1) = (macH k (dpart k s i ++ s ++ ⟨#[UInt8.ofNat (i + 1)]⟩)).1 := rfl
theorem tag_part (k s : ByteArray) (i : Nat) (W : World) : Calls Tryd.prog 38 #[.string k, .string (dpart k s i ++ s ++ ⟨#[UInt8.ofNat (i + 1)]⟩)] W fun e w' => e = .returned (.string (dpart k s (i + 1))) ∧ Below W.heap.size W w' := by
  rw [dpart_next]
  exact tag_calls k _ W
theorem dall_part (k m : ByteArray) (hk : k.size ≤ 1000) (hm : m.size ≤ 1000) (i : Nat) : ∀ j, (dall k m (i + 1 + j)).extract (32 * i) (32 * i + 32) = dpart k m (i + 1)
  | 0 => by
    show (dall k m i ++ dpart k m (i + 1)).extract (32 * i) (32 * i + 32) = _
    exact extract_app_r _ _ _ _ (dall_size k m hk hm i) (by rw [dall_size k m hk hm, (dpart_le k m hk hm (i + 1)).2 (by omega)])
  | j + 1 => by
    show (dall k m (i + 1 + j) ++ dpart k m (i + 1 + j + 1)).extract (32 * i) (32 * i + 32) = _
    rw [extract_app _ _ _ _ (by rw [dall_size k m hk hm]; omega), dall_part k m hk hm i j]
theorem out_part (k m : ByteArray) (hk : k.size ≤ 1000) (hm : m.size ≤ 1000) (n i : Nat) (h : 32 * (i + 1) ≤ n) : ((dall k m ((n + 31) / 32)).extract 0 n).extract (32 * i) (32 * i + 32) = dpart k m (i + 1) := by
  rw [ByteArray.extract_extract]
  have e := dall_part k m hk hm i ((n + 31) / 32 - (i + 1))
  rw [show i + 1 + ((n + 31) / 32 - (i + 1)) = (n + 31) / 32 by omega] at e
  rw [show 0 + 32 * i = 32 * i by omega, show min (0 + (32 * i + 32)) n = 32 * i + 32 by omega]
  exact e
set_option maxHeartbeats 4000000 in
theorem mparts2_calls (key name : ByteArray) (c : Int) (w : World) (hG : Tbl w) (hc0 : -9223372036854775808 ≤ c) (hc1 : c ≤ 9223372036854775807) :
    Calls Tryd.prog 12 #[.string key, .string name, .int .i64 c] w fun e w' => e = .returned (.bool true) ∧ Below w.heap.size w w' := by
  have HG := Lib.hid hG
  clear hG
  have hm0 : (0 : Int) ≤ min (key.size : Int) 100 := by omega
  have hm1 : min (key.size : Int) 100 ≤ (key.size : Int) := by omega
  have hn0 : (0 : Int) ≤ min (name.size : Int) 100 := by omega
  have hn1 : min (name.size : Int) 100 ≤ (name.size : Int) := by omega
  have hks : (key.extract 0 (min (key.size : Int) 100).toNat).size ≤ 100 := by rw [ByteArray.size_extract]; omega
  have hss : (name.extract 0 (min (name.size : Int) 100).toNat).size ≤ 100 := by rw [ByteArray.size_extract]; omega
  obtain ⟨n, hn, hn2⟩ : ∃ n : Nat, pickN c 200 = (n : Int) ∧ n < 200 := ⟨(pickN c 200).toNat, by unfold pickN; omega, by unfold pickN; omega⟩
  have hpc := fun W => pick2_calls c 200 W hc0 hc1 (by omega) (by omega)
  rw [hn] at hpc
  have HPC := Lib.hid hpc
  clear hpc hn
  go_enter Tryd.func12, Tryd.ntmps12
  go_wp2_with (first
    | (go_at_call 29; with_reducible refine (awake2_calls _ HG.out).mono ?_; rintro e W1 ⟨rfl, hb⟩; have HB1 := Lib.hid hb; clear hb)
    | (go_at_call 30; with_reducible refine (HPC.out _).mono ?_; rintro e W2 ⟨rfl, rfl⟩))
  generalize key.extract 0 (min (key.size : Int) 100).toNat = k at *
  generalize name.extract 0 (min (name.size : Int) 100).toNat = s at *
  clear hm0 hm1 hn0 hn1
  obtain ⟨e1, e2⟩ := derH_ok k s n (by omega) (by omega) (by omega)
  have HPT := Lib.hid (fun i (h : 32 * (i + 1) ≤ n) => out_part k s (by omega) (by omega) n i h)
  have HX : Hid (∀ W, Tbl W → Calls Tryd.prog 33 #[.string k, .string s, .int .i64 (n : Int)] W fun e w' => e = .returned (.tuple #[.string ((dall k s ((n + 31) / 32)).extract 0 n), .int .i64 0]) ∧ Below W.heap.size W w') := Lib.hid (fun W g => by have := derive_calls k s (n : Int) W g (by omega) (by omega); rw [e1] at this; exact this)
  clear e1
  generalize (dall k s ((n + 31) / 32)).extract 0 n = X at *
  go_wp2_with (go_at_call 33; with_reducible refine (HX.out _ (HG.out.below HB1.out)).mono ?_; rintro e W3 ⟨rfl, hb⟩; have HB3 := Lib.hid (HB1.out.trans (hb.mono HB1.out.size)); clear hb)
  go_loopw [13, 14] (fun v13 v14 Y => ∃ i : Nat, 32 * i ≤ n ∧ v13 = .string (dpart k s i) ∧ v14 = .int .i64 ((i : Int) + 1) ∧ Below w.heap.size w Y)
    (fun _ v14 _ => 201 - (intOf v14).toNat)
  case atStart => exact ⟨0, by omega, rfl, rfl, HB3.out⟩
  case round =>
    obtain ⟨i, hi, rfl, rfl, hB⟩ := hrel
    by_cases hlt : 32 * (i + 1) ≤ n
    · have hl : 32 * ((i : Int) + 1) ≤ (n : Int) := by omega
      have hle := (dpart_le k s (by omega) (by omega) i).1
      have hps := (dpart_le k s (by omega) (by omega) (i + 1)).2 (by omega)
      have HT' : Hid (∀ W, Calls Tryd.prog 38 #[.string k, .string (dpart k s i ++ s ++ ⟨#[UInt8.ofNat (i + 1)]⟩)] W fun e w' => e = .returned (.string (dpart k s (i + 1))) ∧ Below W.heap.size W w') := Lib.hid (fun W => tag_part k s i W)
      have kc : ∀ (W : World) (g : Nat), W.cell? ⟨g, 0, none⟩ = some (.int .u8 ((i : Int) + 1)) → Sem.run Tryd.prog (convert 44 9 (.slice (some ⟨g, 0, none⟩) 1 1)) W = .ok (.string ⟨#[UInt8.ofNat (i + 1)]⟩) W := fun W g h => conv_n (i + 1) W g h
      have q1 : ¬ 9223372036854775807 < (dpart k s i).size + s.size := by omega
      have q2 : ¬ 9223372036854775807 < (dpart k s i).size + s.size + 1 := by omega
      have hpt := HPT.out i hlt
      obtain ⟨hi_, hh1, hh2⟩ : ∃ h : Nat, 32 * ((i : Int) + 1) = (h : Int) ∧ h = 32 * i + 32 := ⟨32 * i + 32, by omega, rfl⟩
      obtain ⟨lo, hl1, hl2⟩ : ∃ h : Nat, (hi_ : Int) - 32 = (h : Int) ∧ h = 32 * i := ⟨32 * i, by omega, rfl⟩
      have t4 : (lo : Int) ≤ (hi_ : Int) := by omega
      have t5 : (hi_ : Int) ≤ (n : Int) := by omega
      rw [← hh2, ← hl2] at hpt
      clear hh2 hl2
      generalize UInt8.ofNat (i + 1) = y at *
      generalize hdi : dpart k s i = di at *
      generalize hdj : dpart k s (i + 1) = dj at *
      have HDJ := Lib.hid hdj
      clear hdi hdj
      go_wp2_with (go_at_call 38; with_reducible refine (HT'.out _).mono ?_; rintro e W4 ⟨rfl, hb⟩; have HB4 := Lib.hid hb; clear hb)
      go_roundw
      case rel => exact ⟨i + 1, by omega, by rw [HDJ.out], congrArg (Value.int .i64) (by omega), (below_alloc hB _).trans (HB4.out.mono (below_alloc hB _).size)⟩
      case measure => simp [intOf]; omega
    · have hl : ¬ 32 * ((i : Int) + 1) ≤ (n : Int) := by omega
      go_wp2
      go_ret
      exact ⟨rfl, hB⟩
end Go.Proofs.YtajaobebcmlhaaaDoor.Pr
