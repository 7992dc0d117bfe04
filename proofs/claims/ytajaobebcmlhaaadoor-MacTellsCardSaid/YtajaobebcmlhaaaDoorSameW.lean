/-
  mac.Same and the reference's: are two texts the same, and how many bytes are looked at. No condition but the ones that each lemma names.
-/
import Derived.Test.YtajaobebcmlhaaaDoorMac
import Derived.Test.YtajaobebcmlhaaaDoorPartsW
import Derived.Laws.LoneSync
namespace Go.Proofs.YtajaobebcmlhaaaDoor.Pr
open Go.RowKit Go.Shelf Go.Proofs.YtajaobebcmlhaaaDoor.XB Go.Proofs.Sha Go.Proofs.YtajaobebcmlhaaaDoorW.PrintWords
attribute [local go_sem] Oper.semAt_some
set_option linter.unusedVariables false
set_option linter.unusedSimpArgs false
set_option maxRecDepth 100000
theorem run_add (g : Nat) (x : Int) (w : World) (hx : 0 ≤ x ∧ x < 1000000000000000000) (hc : w.cell? ⟨g, 0, none⟩ = some (.int .i64 x)) (hz : w.frozen? ⟨g, 0, none⟩ = false) :
    (callFunc 67 #[.pointer (some ⟨g, 0, none⟩), .int .i64 1]).run Tryd.prog w = .ok (.value (.int .i64 (x + 1))) (w.setCell ⟨g, 0, none⟩ (.int .i64 (x + 1))) :=
  run_call_add Tryd.func67 (by kernel_rfl) (by kernel_rfl) (by kernel_rfl) .i64 (by kernel_rfl) hc hz (by
    have h : IntKind.i64.wrap (x + 1) = x + 1 := IntWalk.i64_in _ (by omega)
    simp [go_sem, h])
theorem run_load (g : Nat) (x : Int) (w : World) (hc : w.cell? ⟨g, 0, none⟩ = some (.int .i64 x)) :
    (callFunc 68 #[.pointer (some ⟨g, 0, none⟩)]).run Tryd.prog w = .ok (.value (.int .i64 x)) w :=
  run_call_load Tryd.func68 (by kernel_rfl) (by kernel_rfl) (by kernel_rfl) .i64 (by kernel_rfl) hc
theorem at_add (g : Nat) (x : Int) (w : World) (hx : 0 ≤ x ∧ x < 1000000000000000000) (hc : w.cell? ⟨g, 0, none⟩ = some (.int .i64 x)) (hz : w.frozen? ⟨g, 0, none⟩ = false) :
    Calls Tryd.prog 56 #[.pointer (some ⟨g, 0, none⟩), .int .i64 1] w fun e w' => e = .returned (.int .i64 (x + 1)) ∧ w' = w.setCell ⟨g, 0, none⟩ (.int .i64 (x + 1)) := by
  have hr := run_add g x w hx hc hz
  go_enter Tryd.func56, Tryd.ntmps56
  go_wp2
  go_ret
  exact ⟨rfl, rfl⟩
theorem at_load (g : Nat) (x : Int) (w : World) (hc : w.cell? ⟨g, 0, none⟩ = some (.int .i64 x)) :
    Calls Tryd.prog 57 #[.pointer (some ⟨g, 0, none⟩)] w fun e w' => e = .returned (.int .i64 x) ∧ w' = w := by
  have hr := run_load g x w hc
  go_enter Tryd.func57, Tryd.ntmps57
  go_wp2
  go_ret
  exact ⟨rfl, rfl⟩
theorem str_eq (a b : ByteArray) : (a.toList == b.toList) = decide (a = b) := by
  rw [ByteArray.toList_eq, ByteArray.toList_eq]
  by_cases h : a = b
  · subst h; simp
  · rw [decide_eq_false h]
    exact beq_eq_false_iff_ne.2 (fun h2 => h (ByteArray.ext (Array.toList_inj.1 h2)))
theorem or_u8 (x b : UInt8) : bits .or .u8 ((x.toNat : Nat) : Int) ((b.toNat : Nat) : Int) = (((x ||| b).toNat : Nat) : Int) := by
  rw [u8_or_nat _ _ x.toNat_lt b.toNat_lt, UInt8.toNat_or]
theorem xor8 (x b : UInt8) : bits .xor .u8 ((x.toNat : Nat) : Int) ((b.toNat : Nat) : Int) = (((x ^^^ b).toNat : Nat) : Int) := by
  rw [u8_xor_nat _ _ x.toNat_lt b.toNat_lt, UInt8.toNat_xor]
theorem or_zero (x y z : UInt8) : x ||| (y ^^^ z) = 0 ↔ x = 0 ∧ y = z := by
  rw [UInt8.or_eq_zero_iff, UInt8.xor_eq_zero_iff]
theorem take_same (a b : ByteArray) (i : Nat) (h : i < a.size) (h2 : i < b.size) (x : UInt8) (hx : x = 0 ↔ a.data.toList.take i = b.data.toList.take i) :
    (x ||| (a[i] ^^^ b[i]) = 0 ↔ a.data.toList.take (i + 1) = b.data.toList.take (i + 1)) := by
  have ha : i < a.data.toList.length := by rw [data_length]; exact h
  have hb : i < b.data.toList.length := by rw [data_length]; exact h2
  rw [or_zero, hx, List.take_add_one, List.take_add_one, List.getElem?_eq_getElem ha, List.getElem?_eq_getElem hb]
  have e1 : a[i] = a.data.toList[i] := rfl
  have e2 : b[i] = b.data.toList[i] := rfl
  rw [e1, e2]
  constructor
  · rintro ⟨h1, h2⟩; rw [h1, h2]
  · intro h
    have := List.append_inj h (by simp; omega)
    exact ⟨this.1, by simpa using this.2⟩
theorem all_same (a b : ByteArray) (hs : b.size = a.size) (x : UInt8) (hx : x = 0 ↔ a.data.toList.take a.size = b.data.toList.take a.size) : (((x.toNat : Nat) : Int) == 0) = decide (a = b) := by
  have ha : a.data.toList.take a.size = a.data.toList := List.take_of_length_le (by rw [data_length]; omega)
  have hb : b.data.toList.take a.size = b.data.toList := List.take_of_length_le (by rw [data_length]; omega)
  rw [ha, hb] at hx
  have e : (a = b) ↔ x = 0 := by
    rw [hx]
    constructor
    · rintro rfl; rfl
    · intro h; exact ByteArray.ext (Array.toList_inj.1 h)
  have e2 : (((x.toNat : Nat) : Int) == 0) = decide (x = 0) := by
    by_cases h0 : x = 0
    · subst h0; rfl
    · have : x.toNat ≠ 0 := fun h => h0 (UInt8.toNat_inj.1 h)
      rw [decide_eq_false h0]
      simp; omega
  rw [e2]
  by_cases h0 : x = 0
  · rw [decide_eq_true h0, decide_eq_true (e.2 h0)]
  · rw [decide_eq_false h0, decide_eq_false (fun h => h0 (e.1 h))]
set_option maxHeartbeats 4000000 in
theorem same_go (a b : ByteArray) (w : World) (hs : b.size = a.size) (hm : a.size ≤ 1099511627776) :
    Calls Tryd.prog 35 #[.string a, .string b] w fun e w' => e = .returned (.tuple #[.bool (decide (a = b)), .int .i64 (a.size : Int)]) ∧ Below w.heap.size w w' := by
  go_enter Tryd.func35, Tryd.ntmps35
  go_wp2
  go_loopw [7, 16] (fun v7 v16 X => ∃ (i : Nat) (x : UInt8), i ≤ a.size ∧ v16 = .int .i64 (i : Int) ∧ v7 = .int .u8 ((x.toNat : Nat) : Int) ∧ (x = 0 ↔ a.data.toList.take i = b.data.toList.take i) ∧ X.heap[w.heap.size]? = some (.cells #[.int .i64 (i : Int)] 91 (0, 0)) ∧ Below w.heap.size w X)
    (fun _ v16 _ => a.size - (intOf v16).toNat)
  case atStart => exact ⟨0, 0, by omega, rfl, rfl, by simp, heap_alloc_new w _, below_alloc (Below.refl _ _) _⟩
  case round =>
    obtain ⟨i, x, hi, rfl, rfl, hx, hT, hB⟩ := hrel
    have c0 : ∀ m, (wr.drewN m).cell? ⟨w.heap.size, 0, none⟩ = some (.int .i64 (i : Int)) := fun m => (blk_cell hT 0).trans rfl
    have f0 : ∀ m, (wr.drewN m).frozen? ⟨w.heap.size, 0, none⟩ = false := fun m => blk_frozen hT 0
    have HT := Lib.hid hT
    have HB := Lib.hid hB
    clear hT hB
    by_cases hlt : (i : Int) < (a.size : Int)
    · have hlt2 : (i : Int) < (b.size : Int) := by omega
      have HX := Lib.hid (take_same a b i (by omega) (by omega) x hx)
      have hr : (i : Int) + 1 < 1000000000000000000 := by omega
      clear hx
      go_wp2
      go_quiet (fail)
      go_wp2_with (go_at_call 56; with_reducible refine (at_add w.heap.size (i : Int) _ (by omega) (c0 nq) (f0 nq)).mono ?_; rintro e W5 ⟨rfl, rfl⟩)
      go_roundw
      case rel => exact ⟨i + 1, _, by omega, congrArg (Value.int .i64) (by omega), by rw [xor8, or_u8], HX.out, blk_set (show (wr.drewN nq).heap[w.heap.size]? = _ from HT.out) 0 _, (show Below w.heap.size w (wr.drewN nq) from ⟨HB.out.os, HB.out.tape, HB.out.output, HB.out.size, HB.out.block⟩).setCell (p := ⟨w.heap.size, 0, none⟩) (Nat.le_refl _) _⟩
      case measure => simp [intOf]; omega
    · obtain rfl : i = a.size := by omega
      have hq := all_same a b hs x hx
      have c1 : wr.cell? ⟨w.heap.size, 0, none⟩ = some (.int .i64 (a.size : Int)) := (blk_cell HT.out 0).trans rfl
      clear c0
      go_wp2_with (go_at_call 57; with_reducible refine (at_load w.heap.size (a.size : Int) _ c1).mono ?_; rintro e W5 ⟨rfl, rfl⟩)
      go_ret2
      exact ⟨rfl, HB.out⟩
def sameH (a b : ByteArray) : Bool × Int := if a.size = b.size then (decide (a = b), (a.size : Int)) else (false, 0)
theorem macsame_calls (a b : ByteArray) (w : World) (hm : a.size ≤ 1099511627776) :
    Calls Tryd.prog 35 #[.string a, .string b] w fun e w' => e = .returned (.tuple #[.bool (sameH a b).1, .int .i64 (sameH a b).2]) ∧ Below w.heap.size w w' := by
  unfold sameH
  by_cases hs : a.size = b.size
  · rw [if_pos hs]; exact same_go a b w hs.symm hm
  · rw [if_neg hs]
    have hq : ((a.size : Int) == (b.size : Int)) = false := by simp; omega
    go_enter Tryd.func35, Tryd.ntmps35
    go_wp2
    go_ret2
    exact ⟨rfl, Below.refl _ _⟩
theorem refsame_calls (a b : ByteArray) (w : World) :
    Calls Tryd.prog 36 #[.string a, .string b] w fun e w' => e = .returned (.tuple #[.bool (sameH a b).1, .int .i64 (sameH a b).2]) ∧ Below w.heap.size w w' := by
  unfold sameH
  by_cases hs : a.size = b.size
  · rw [if_pos hs]
    go_enter Tryd.func36, Tryd.ntmps36
    go_wp2
    go_ret2
    exact ⟨by rw [← str_eq, hs]; first | done | rfl, Below.refl _ _⟩
  · rw [if_neg hs]
    have hq : ((a.size : Int) == (b.size : Int)) = false := by simp; omega
    go_enter Tryd.func36, Tryd.ntmps36
    go_wp2
    go_ret2
    exact ⟨rfl, Below.refl _ _⟩
end Go.Proofs.YtajaobebcmlhaaaDoor.Pr
