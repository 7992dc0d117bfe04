/-
  The law MacSame: walked. Condition: the words of the rounds lie where the program has them; the numbers are int's.
-/
import Derived.Test.YtajaobebcmlhaaaDoorBegins
import Derived.Test.YtajaobebcmlhaaaDoorConv1
import Derived.Test.YtajaobebcmlhaaaDoorLong
namespace Go.Proofs.YtajaobebcmlhaaaDoor.Pr
open Go.RowKit Go.Shelf Go.Proofs.YtajaobebcmlhaaaDoor.XB Go.Proofs.Sha Go.Proofs.YtajaobebcmlhaaaDoorW.PrintWords
attribute [local go_sem] Oper.semAt_some
set_option linter.unusedVariables false
set_option linter.unusedSimpArgs false
/-- A text of which a byte is another one. -/
def oddB (x : ByteArray) (k : Nat) (y : UInt8) : ByteArray := x.extract 0 k ++ ⟨#[y]⟩ ++ x.extract (k + 1) x.size
theorem oddB_size (x : ByteArray) (k : Nat) (y : UInt8) (h : k < x.size) : (oddB x k y).size = x.size := by
  unfold oddB
  rw [ByteArray.size_append, ByteArray.size_append, ByteArray.size_extract, ByteArray.size_extract, one_size]
  omega
theorem oddB_ne (x : ByteArray) (k : Nat) (y : UInt8) (h : k < x.size) (hy : y ≠ x[k]) : oddB x k y ≠ x := by
  intro e
  have h1 : (oddB x k y)[k]'(by rw [oddB_size x k y h]; exact h) = y := by
    unfold oddB
    have h2 : k < (x.extract 0 k ++ ⟨#[y]⟩).size := by rw [ByteArray.size_append, ByteArray.size_extract, one_size]; omega
    rw [ByteArray.getElem_append_left h2, ByteArray.getElem_append_right (by rw [ByteArray.size_extract]; omega)]
    have h3 : k - (x.extract 0 k).size = 0 := by rw [ByteArray.size_extract]; omega
    simp only [h3]
    rfl
  have h4 : (oddB x k y)[k]'(by rw [oddB_size x k y h]; exact h) = x[k] := by simp only [e]
  exact hy (h1.symm.trans h4)
theorem xor_ne (x b : UInt8) (h : b ≠ 0) : x ^^^ b ≠ x := by
  intro e
  have : x ^^^ (x ^^^ b) = x ^^^ x := by rw [e]
  rw [← UInt8.xor_assoc, UInt8.xor_self, UInt8.zero_xor] at this
  exact h this
theorem same_self (x : ByteArray) : sameH x x = (true, (x.size : Int)) := by unfold sameH; simp
theorem same_odd (x z : ByteArray) (hs : z.size = x.size) (h : z ≠ x) : sameH x z = (false, (x.size : Int)) ∧ sameH z x = (false, (x.size : Int)) := by
  unfold sameH
  rw [if_pos hs.symm, if_pos hs, decide_eq_false h, decide_eq_false (fun e => h e.symm), hs]
  exact ⟨rfl, rfl⟩
theorem same_short (x : ByteArray) (k : Nat) (h : k < x.size) : sameH x (x.extract 0 k) = (false, 0) := by
  unfold sameH; rw [if_neg (by rw [ByteArray.size_extract]; omega)]
set_option maxRecDepth 100000 in
set_option maxHeartbeats 4000000 in
theorem msame_calls (s : ByteArray) (c d : Int) (w : World) (hG : Tbl w) (hc0 : -9223372036854775808 ≤ c) (hc1 : c ≤ 9223372036854775807) (hd0 : -9223372036854775808 ≤ d) (hd1 : d ≤ 9223372036854775807) :
    Calls Tryd.prog 11 #[.string s, .int .i64 c, .int .i64 d] w fun e w' => e = .returned (.bool true) ∧ Below w.heap.size w w' := by
  have HG := Lib.hid hG
  clear hG
  have hm0 : (0 : Int) ≤ min (s.size : Int) 300 := by omega
  have hm1 : min (s.size : Int) 300 ≤ (s.size : Int) := by omega
  have hxs : (s.extract 0 (min (s.size : Int) 300).toNat).size ≤ 300 := by rw [ByteArray.size_extract]; omega
  go_enter Tryd.func11, Tryd.ntmps11
  go_wp2_with (first
    | (go_at_call 29; with_reducible refine (awake2_calls _ HG.out).mono ?_; rintro e W1 ⟨rfl, hb⟩; have HB1 := Lib.hid hb; clear hb))
  generalize s.extract 0 (min (s.size : Int) 300).toNat = x at *
  have HS : Hid (∀ W, Calls Tryd.prog 35 #[.string x, .string x] W fun e w' => e = .returned (.tuple #[.bool true, .int .i64 (x.size : Int)]) ∧ Below W.heap.size W w') := Lib.hid (fun W => by have := macsame_calls x x W (by omega); rw [same_self] at this; exact this)
  clear hm0 hm1
  by_cases hx : x.size = 0
  · have hxi : (x.size : Int) = 0 := by omega
    rw [hxi] at HS
    go_wp2_with (go_at_call 35; with_reducible refine (HS.out _).mono ?_; rintro e W2 ⟨rfl, hb⟩; have HB2 := Lib.hid (HB1.out.trans (hb.mono HB1.out.size)); clear hb)
    go_ret
    exact ⟨rfl, HB2.out⟩
  · have hx1 : 0 < x.size := by omega
    have hxi : ¬ ((x.size : Int) = 0) := by omega
    have hxb : ((x.size : Int) == 0) = false := beq_eq_false_iff_ne.2 hxi
    obtain ⟨k, hk, hk1⟩ : ∃ k : Nat, pickN c (x.size : Int) = (k : Int) ∧ k < x.size := ⟨(pickN c (x.size : Int)).toNat, by
        have h1 := Int.emod_nonneg (if c < 0 then -(c + 1) else c) (show (x.size : Int) ≠ 0 by omega)
        unfold pickN; omega, by
        have h1 := Int.emod_nonneg (if c < 0 then -(c + 1) else c) (show (x.size : Int) ≠ 0 by omega)
        have h2 := Int.emod_lt_of_pos (if c < 0 then -(c + 1) else c) (show 0 < (x.size : Int) by omega)
        unfold pickN; omega⟩
    obtain ⟨q, hq, hq1⟩ : ∃ q : Nat, pickN d 255 = (q : Int) ∧ q < 255 := ⟨(pickN d 255).toNat, by unfold pickN; omega, by unfold pickN; omega⟩
    have hkc := fun W => pick2_calls c (x.size : Int) W hc0 hc1 (by omega) (by omega)
    have hqc := fun W => pick2_calls d 255 W hd0 hd1 (by omega) (by omega)
    rw [hk] at hkc
    rw [hq] at hqc
    have HKC := Lib.hid hkc
    have HQC := Lib.hid hqc
    clear hkc hqc hk hq
    have k1 : (k : Int) < (x.size : Int) := by omega
    have k2 : (k : Int) ≤ (x.size : Int) := by omega
    have k3 : (k : Int) + 1 ≤ (x.size : Int) := by omega
    have k4 : ((k : Int) + 1).toNat = k + 1 := by omega
    have k5 : IntKind.i64.wrap ((k : Int) + 1) = (k : Int) + 1 := IntWalk.i64_in _ (by omega)
    have k6 : 0 ≤ (k : Int) + 1 := by omega
    obtain ⟨y, hy⟩ : ∃ y, y = x[k] ^^^ UInt8.ofNat (1 + q) := ⟨_, rfl⟩
    have kc : ∀ (W : World) (g : Nat), W.cell? ⟨g, 0, none⟩ = some (.int .u8 (bits .xor .u8 ((x[k].toNat : Nat) : Int) (IntKind.u8.wrap (IntKind.i64.wrap (1 + (q : Int)))))) → Sem.run Tryd.prog (convert 44 9 (.slice (some ⟨g, 0, none⟩) 1 1)) W = .ok (.string ⟨#[y]⟩) W := fun W g h => conv1 y W g (by
      rw [h, hy]
      have e : IntKind.u8.wrap (IntKind.i64.wrap (1 + (q : Int))) = (((UInt8.ofNat (1 + q)).toNat : Nat) : Int) := by rw [show IntKind.i64.wrap (1 + (q : Int)) = 1 + (q : Int) from IntWalk.i64_in _ (by omega), u8w]; simp
      rw [e, xor8]
      rfl)
    have HYE := Lib.hid hy
    clear hy
    go_wp2_with (first
      | (go_at_call 35; with_reducible refine (HS.out _).mono ?_; rintro e W2 ⟨rfl, hb⟩; have HB2 := Lib.hid (HB1.out.trans (hb.mono HB1.out.size)); clear hb)
      | (go_at_call 30; with_reducible refine (HKC.out _).mono ?_; rintro e W3 ⟨rfl, rfl⟩))
    have q1 : ¬ 9223372036854775807 < (x.extract 0 k).size + 1 := by rw [ByteArray.size_extract]; omega
    have q2 : ¬ 9223372036854775807 < (x.extract 0 k ++ ⟨#[y]⟩).size + (x.extract (k + 1) x.size).size := by rw [ByteArray.size_append, ByteArray.size_extract, ByteArray.size_extract, one_size]; omega
    go_cut [12] from 47 to 66 (fun v wx => v = .string (oddB x k y) ∧ Below W3.heap.size W3 wx)
    case first =>
      go_region_with ((go_at_call 30; refine (HQC.out _).mono ?_; rintro e W5 ⟨rfl, rfl⟩))
      all_goals (go_wp2_with fail; go_meet)
      all_goals exact ⟨rfl, by first | exact below_drew1 (below_alloc (Below.refl _ _) _) | exact below_alloc (below_drew1 (Below.refl _ _)) _⟩
    case rest =>
      obtain ⟨rfl, hB4⟩ := hcut
      have hyn : y ≠ x[k] := by rw [HYE.out]; exact xor_ne _ _ (by intro e; have := congrArg UInt8.toNat e; simp at this; omega)
      have ho := oddB_size x k y hk1
      have hne := oddB_ne x k y hk1 hyn
      obtain ⟨s1, s2⟩ := same_odd x (oddB x k y) ho hne
      have s3 := same_short x k hk1
      have HA : Hid (∀ W, Calls Tryd.prog 35 #[.string x, .string (oddB x k y)] W fun e w' => e = .returned (.tuple #[.bool false, .int .i64 (x.size : Int)]) ∧ Below W.heap.size W w') := Lib.hid (fun W => by have := macsame_calls x (oddB x k y) W (by omega); rw [s1] at this; exact this)
      have HC : Hid (∀ W, Calls Tryd.prog 35 #[.string (oddB x k y), .string x] W fun e w' => e = .returned (.tuple #[.bool false, .int .i64 (x.size : Int)]) ∧ Below W.heap.size W w') := Lib.hid (fun W => by have := macsame_calls (oddB x k y) x W (by omega); rw [s2] at this; exact this)
      have HD : Hid (∀ W, Calls Tryd.prog 35 #[.string x, .string (x.extract 0 k)] W fun e w' => e = .returned (.tuple #[.bool false, .int .i64 0]) ∧ Below W.heap.size W w') := Lib.hid (fun W => by have := macsame_calls x (x.extract 0 k) W (by omega); rw [s3] at this; exact this)
      have HB4 := Lib.hid (HB2.out.trans (hB4.mono HB2.out.size))
      clear s1 s2 s3 hyn hne ho hB4 kc q1 q2 HYE HS
      generalize oddB x k y = z at *
      go_wp2_with (first
        | (go_at_call 35; with_reducible refine (HA.out _).mono ?_; rintro e W5 ⟨rfl, hb⟩; have HB5 := Lib.hid (HB4.out.trans (hb.mono HB4.out.size)); clear hb)
        | (go_at_call 35; with_reducible refine (HC.out _).mono ?_; rintro e W6 ⟨rfl, hb⟩; have HB6 := Lib.hid (HB5.out.trans (hb.mono HB5.out.size)); clear hb)
        | (go_at_call 35; with_reducible refine (HD.out _).mono ?_; rintro e W7 ⟨rfl, hb⟩; have HB7 := Lib.hid (HB6.out.trans (hb.mono HB6.out.size)); clear hb))
      go_ret
      exact ⟨rfl, HB7.out⟩
end Go.Proofs.YtajaobebcmlhaaaDoor.Pr
