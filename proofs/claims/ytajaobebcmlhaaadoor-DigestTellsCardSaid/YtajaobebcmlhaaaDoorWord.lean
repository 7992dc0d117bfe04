import Derived.Test.YtajaobebcmlhaaaDoorRot
import Derived.Test.YtajaobebcmlhaaaDoorXBase
import Derived.Test.YtajaobebcmlhaaaDoorWMore
import Derived.WalkKit
import Derived.Lib.Hide
import Derived.Outline
import Derived.Lib.ConvBytes
import Derived.Laws.BytesArg
import Derived.LoopTactic
namespace Go.Proofs.YtajaobebcmlhaaaDoor.Pr
open Go.RowKit Go.Proofs.Sha Go.Proofs.YtajaobebcmlhaaaDoorW.PrintWords
set_option linter.unusedVariables false
theorem be_take (l : List UInt8) (k : Nat) (h : k < l.length) : be (l.take (k + 1)) = 256 * be (l.take k) + BitVec.ofNat 32 (l.getD k 0).toNat := by
  have e : l.take (k + 1) = l.take k ++ [l.getD k 0] := by rw [List.take_succ_eq_append_getElem h]; simp [List.getD_eq_getElem?_getD, h]
  unfold be
  rw [e, List.foldl_append]; rfl
theorem shl8_or (x : U) (b : Nat) (hb : b < 256) : bits .or .u32 (u x * 256 % 4294967296) (b : Int) = u (256 * x + BitVec.ofNat 32 b) := by
  have h1 : u x * 256 % 4294967296 = ((x.toNat * 256 % 4294967296 : Nat) : Int) := by unfold u; omega
  rw [h1, u32_or_nat _ _ (by omega) (by omega)]
  unfold u
  rw [BitVec.toNat_add, BitVec.toNat_mul, BitVec.toNat_ofNat]
  have h2 : x.toNat * 256 % 4294967296 = 2 ^ 8 * (x.toNat % 16777216) := by omega
  rw [h2, ← Nat.two_pow_add_eq_or_of_lt (show b < 2 ^ 8 from hb)]
  have : (256 : U).toNat = 256 := rfl
  rw [this]; congr 1; have := x.isLt; omega
set_option maxRecDepth 100000 in
theorem word_calls (s : ByteArray) (w : World) (hs : s.size ≤ 1000) : Calls Tryd.prog 59 #[.string s] w fun e w' => e = .returned (.int .u32 (u (be s.data.toList))) ∧ Below w.heap.size w w' := by
  have kb := fun W => print_bytes (P := Tryd.prog) 9 44 5 Tryd.underlying9 Tryd.underlying44 Tryd.underlying5 s W
  go_enter Tryd.func59, Tryd.ntmps59
  go_wp2
  clear kb
  have hc := fun j hj => Lib.bytesWorld_cell w 5 s j hj
  have hb : Below w.heap.size w (Lib.bytesWorld w 5 s) := bytes_below (Below.refl _ _) (Nat.le_refl _) _ _
  generalize Lib.bytesWorld w 5 s = W at *
  go_loop [2, 8] (fun x i => ∃ k : Nat, k ≤ s.size ∧ i = .int .i64 k ∧ x = .int .u32 (u (be (s.data.toList.take k)))) (fun _ i => s.size - (intOf i).toNat)
  case atStart => exact ⟨0, Nat.zero_le _, rfl, rfl⟩
  case round =>
    obtain ⟨k, hk, rfl, rfl⟩ := hrel
    have hl : s.data.toList.length = s.size := data_length s
    by_cases hlt : k < s.size
    · have hck := hc k hlt
      have hb8 : (s.data.toList.getD k 0).toNat < 256 := (s.data.toList.getD k 0).toNat_lt
      have hbe := be_take s.data.toList k (by omega)
      have hsh := shl8_or (be (s.data.toList.take k)) _ hb8
      generalize s.data.toList.getD k 0 = b at *
      have HS := Lib.hid hsh
      have HB := Lib.hid hbe
      have HBl := Lib.hid hb
      clear hsh hbe hc hl hb
      go_wp2
      go_round
      case rel => exact ⟨k + 1, by omega, by go_num, by rw [HB.out, ← HS.out]⟩
      case measure => simp [intOf]; omega
    · obtain rfl : k = s.size := by omega
      rw [List.take_of_length_le (by omega)]
      clear hc
      go_wp2
      go_ret
      exact ⟨rfl, hb⟩
end Go.Proofs.YtajaobebcmlhaaaDoor.Pr
