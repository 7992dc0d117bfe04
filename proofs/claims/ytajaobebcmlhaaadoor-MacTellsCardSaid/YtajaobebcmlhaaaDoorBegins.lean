/-
  The law MacBegins: walked. Condition: the words of the rounds lie where the program has them; the numbers are int's.
-/
import Derived.Test.YtajaobebcmlhaaaDoorAwake2
namespace Go.Proofs.YtajaobebcmlhaaaDoor.Pr
open Go.RowKit Go.Shelf Go.Proofs.YtajaobebcmlhaaaDoor.XB Go.Proofs.Sha Go.Proofs.YtajaobebcmlhaaaDoorW.PrintWords
attribute [local go_sem] Oper.semAt_some
set_option linter.unusedVariables false
set_option linter.unusedSimpArgs false
theorem extract_app_l (t b : ByteArray) (j : Nat) (h : j ≤ t.size) : (t ++ b).extract 0 j = t.extract 0 j := extract_app t b 0 j h
theorem dall_begins (k m : ByteArray) (hk : k.size ≤ 1000) (hm : m.size ≤ 1000) (i a : Nat) (ha : a ≤ 32 * i) : ∀ j, (dall k m (i + j)).extract 0 a = (dall k m i).extract 0 a
  | 0 => rfl
  | j + 1 => by
    show (dall k m (i + j) ++ dpart k m (i + j + 1)).extract 0 a = _
    rw [extract_app_l _ _ _ (by rw [dall_size k m hk hm]; omega), dall_begins k m hk hm i a ha j]
theorem derH_ok (k m : ByteArray) (n : Nat) (hk : k.size ≤ 1000) (hm : m.size ≤ 1000) (hn : n ≤ 4096) : derH k m (n : Int) = ((dall k m ((n + 31) / 32)).extract 0 n, 0) ∧ ((dall k m ((n + 31) / 32)).extract 0 n).size = n := by
  constructor
  · unfold derH
    rw [if_pos ⟨⟨hk, hm⟩, by omega, by omega⟩, Int.toNat_natCast]
  · rw [ByteArray.size_extract, dall_size k m hk hm]; omega
theorem macH_ok (k s : ByteArray) (hk : k.size ≤ 1000) (hs : s.size ≤ 1048512) : macH k s = (tagB k s, 0) := by
  unfold macH; rw [if_neg (by omega), if_neg (by omega)]
/-- What is derived for more bytes begins with what is derived for fewer; the parts are tags. -/
theorem begins (k s : ByteArray) (a b : Nat) (hk : k.size ≤ 200) (hs : s.size ≤ 200) (hab : a ≤ b) (hb : b ≤ 150) :
    ∃ X Y T U, derH k s (a : Int) = (X, 0) ∧ derH k s (b : Int) = (Y, 0) ∧ derH k s 64 = (T ++ U, 0) ∧ macH k (s ++ ⟨#[1]⟩) = (T, 0) ∧ macH k (T ++ s ++ ⟨#[2]⟩) = (U, 0) ∧ X.size = a ∧ Y.size = b ∧ Y.extract 0 a = X ∧ T.size = 32 ∧ U.size = 32 := by
  obtain ⟨x1, x2⟩ := derH_ok k s a (by omega) (by omega) (by omega)
  obtain ⟨y1, y2⟩ := derH_ok k s b (by omega) (by omega) (by omega)
  obtain ⟨z1, _⟩ := derH_ok k s 64 (by omega) (by omega) (by omega)
  have t1 := (dpart_le k s (by omega) (by omega) 1).2 (by omega)
  have u1 := (dpart_le k s (by omega) (by omega) 2).2 (by omega)
  have m1 : macH k (s ++ ⟨#[1]⟩) = (dpart k s 1, 0) := by
    have e := macH_ok k (s ++ ⟨#[1]⟩) (by omega) (by rw [ByteArray.size_append, one_size]; omega)
    have e2 : dpart k s 1 = (macH k (ByteArray.empty ++ s ++ ⟨#[UInt8.ofNat (0 + 1)]⟩)).1 := rfl
    rw [ByteArray.empty_append] at e2
    rw [e2, show (UInt8.ofNat (0 + 1)) = 1 from rfl, e]
  have m2 : macH k (dpart k s 1 ++ s ++ ⟨#[2]⟩) = (dpart k s 2, 0) := by
    have e := macH_ok k (dpart k s 1 ++ s ++ ⟨#[2]⟩) (by omega) (by rw [ByteArray.size_append, ByteArray.size_append, one_size]; omega)
    have e2 : dpart k s 2 = (macH k (dpart k s 1 ++ s ++ ⟨#[UInt8.ofNat (1 + 1)]⟩)).1 := rfl
    rw [e2, show (UInt8.ofNat (1 + 1)) = 2 from rfl, e]
  refine ⟨_, _, dpart k s 1, dpart k s 2, x1, y1, ?_, m1, m2, x2, y2, ?_, t1, u1⟩
  · have e : dall k s ((64 + 31) / 32) = dpart k s 1 ++ dpart k s 2 := by
      show (ByteArray.empty ++ dpart k s 1) ++ dpart k s 2 = _
      rw [ByteArray.empty_append]
    rw [e] at z1
    have hz : (dpart k s 1 ++ dpart k s 2).extract 0 64 = dpart k s 1 ++ dpart k s 2 := by
      have h : (dpart k s 1 ++ dpart k s 2).size = 64 := by rw [ByteArray.size_append]; omega
      rw [← h, ByteArray.extract_zero_size]
    rw [hz] at z1
    exact z1
  · rw [ByteArray.extract_extract]
    have h := dall_begins k s (by omega) (by omega) ((a + 31) / 32) a (by omega) ((b + 31) / 32 - (a + 31) / 32)
    rw [show (a + 31) / 32 + ((b + 31) / 32 - (a + 31) / 32) = (b + 31) / 32 by omega] at h
    rw [show min (0 + a) b = a by omega]
    exact h
set_option maxRecDepth 100000 in
set_option maxHeartbeats 4000000 in
theorem begins_calls (key name : ByteArray) (c d : Int) (w : World) (hG : Tbl w) (hc0 : -9223372036854775808 ≤ c) (hc1 : c ≤ 9223372036854775807) (hd0 : -9223372036854775808 ≤ d) (hd1 : d ≤ 9223372036854775807) :
    Calls Tryd.prog 9 #[.string key, .string name, .int .i64 c, .int .i64 d] w fun e w' => e = .returned (.bool true) ∧ Below w.heap.size w w' := by
  have HG := Lib.hid hG
  clear hG
  have hm0 : (0 : Int) ≤ min (key.size : Int) 200 := by omega
  have hm1 : min (key.size : Int) 200 ≤ (key.size : Int) := by omega
  have hn0 : (0 : Int) ≤ min (name.size : Int) 200 := by omega
  have hn1 : min (name.size : Int) 200 ≤ (name.size : Int) := by omega
  have hks : (key.extract 0 (min (key.size : Int) 200).toNat).size ≤ 200 := by rw [ByteArray.size_extract]; omega
  have hss : (name.extract 0 (min (name.size : Int) 200).toNat).size ≤ 200 := by rw [ByteArray.size_extract]; omega
  obtain ⟨p, hp, hp1⟩ : ∃ p : Nat, pickN c 150 = (p : Int) ∧ p < 150 := ⟨(pickN c 150).toNat, by unfold pickN; omega, by unfold pickN; omega⟩
  obtain ⟨q, hq, hq1⟩ : ∃ q : Nat, pickN d 150 = (q : Int) ∧ q < 150 := ⟨(pickN d 150).toNat, by unfold pickN; omega, by unfold pickN; omega⟩
  have hpc := fun W => pick2_calls c 150 W hc0 hc1 (by omega) (by omega)
  have hqc := fun W => pick2_calls d 150 W hd0 hd1 (by omega) (by omega)
  rw [hp] at hpc
  rw [hq] at hqc
  have HPC := Lib.hid hpc
  have HQC := Lib.hid hqc
  clear hpc hqc hp hq
  obtain ⟨a, ha⟩ : ∃ a : Nat, min (p : Int) (q : Int) = (a : Int) := ⟨min p q, by omega⟩
  obtain ⟨b, hb⟩ : ∃ b : Nat, max (p : Int) (q : Int) = (b : Int) := ⟨max p q, by omega⟩
  go_enter Tryd.func9, Tryd.ntmps9
  go_wp2_with (first
    | (go_at_call 29; with_reducible refine (awake2_calls _ HG.out).mono ?_; rintro e W1 ⟨rfl, hb⟩; have HB1 := Lib.hid hb; clear hb)
    | (go_at_call 30; with_reducible refine (HPC.out _).mono ?_; rintro e W2 ⟨rfl, rfl⟩)
    | (go_at_call 30; with_reducible refine (HQC.out _).mono ?_; rintro e W2 ⟨rfl, rfl⟩))
  generalize key.extract 0 (min (key.size : Int) 200).toNat = k at *
  generalize name.extract 0 (min (name.size : Int) 200).toNat = s at *
  obtain ⟨X, Y, T, U, e1, e2, e3, e4, e5, x1, y1, yx, t1, u1⟩ := begins k s a b hks hss (by omega) (by omega)
  have HX : Hid (∀ W, Tbl W → Calls Tryd.prog 33 #[.string k, .string s, .int .i64 (a : Int)] W fun e w' => e = .returned (.tuple #[.string X, .int .i64 0]) ∧ Below W.heap.size W w') := Lib.hid (fun W g => by have := derive_calls k s (a : Int) W g (by omega) (by omega); rw [e1] at this; exact this)
  have HY : Hid (∀ W, Tbl W → Calls Tryd.prog 33 #[.string k, .string s, .int .i64 (b : Int)] W fun e w' => e = .returned (.tuple #[.string Y, .int .i64 0]) ∧ Below W.heap.size W w') := Lib.hid (fun W g => by have := derive_calls k s (b : Int) W g (by omega) (by omega); rw [e2] at this; exact this)
  have HZ : Hid (∀ W, Tbl W → Calls Tryd.prog 33 #[.string k, .string s, .int .i64 64] W fun e w' => e = .returned (.tuple #[.string (T ++ U), .int .i64 0]) ∧ Below W.heap.size W w') := Lib.hid (fun W g => by have := derive_calls k s 64 W g (by omega) (by omega); rw [e3] at this; exact this)
  have HT : Hid (∀ W, Tbl W → Calls Tryd.prog 31 #[.string k, .string (s ++ ⟨#[1]⟩)] W fun e w' => e = .returned (.tuple #[.string T, .int .i64 0]) ∧ Below W.heap.size W w') := Lib.hid (fun W g => by have := mac_calls k (s ++ ⟨#[1]⟩) W g; rw [e4] at this; exact this)
  have HU : Hid (∀ W, Tbl W → Calls Tryd.prog 31 #[.string k, .string (T ++ s ++ ⟨#[2]⟩)] W fun e w' => e = .returned (.tuple #[.string U, .int .i64 0]) ∧ Below W.heap.size W w') := Lib.hid (fun W g => by have := mac_calls k (T ++ s ++ ⟨#[2]⟩) W g; rw [e5] at this; exact this)
  have ba : (a : Int) ≤ (b : Int) := by omega
  have q1 : ¬ 9223372036854775807 < T.size + s.size := by omega
  have q2 : ¬ 9223372036854775807 < T.size + U.size := by omega
  clear e1 e2 e3 e4 e5 hm0 hm1 hn0 hn1
  go_wp2_with (first
    | (go_at_call 33; with_reducible refine (HX.out _ (HG.out.below HB1.out)).mono ?_; rintro e W3 ⟨rfl, hb⟩; have HB3 := Lib.hid (HB1.out.trans (hb.mono HB1.out.size)); clear hb)
    | (go_at_call 33; with_reducible refine (HY.out _ (HG.out.below HB3.out)).mono ?_; rintro e W4 ⟨rfl, hb⟩; have HB4 := Lib.hid (HB3.out.trans (hb.mono HB3.out.size)); clear hb)
    | (go_at_call 33; with_reducible refine (HZ.out _ (HG.out.below HB4.out)).mono ?_; rintro e W5 ⟨rfl, hb⟩; have HB5 := Lib.hid (HB4.out.trans (hb.mono HB4.out.size)); clear hb)
    | (go_at_call 31; with_reducible refine (HT.out _ (HG.out.below HB5.out)).mono ?_; rintro e W6 ⟨rfl, hb⟩; have HB6 := Lib.hid (HB5.out.trans (hb.mono HB5.out.size)); clear hb)
    | (go_at_call 31; with_reducible refine (HU.out _ (HG.out.below HB6.out)).mono ?_; rintro e W7 ⟨rfl, hb⟩; have HB7 := Lib.hid (HB6.out.trans (hb.mono HB6.out.size)); clear hb))
  go_ret
  exact ⟨rfl, HB7.out⟩
end Go.Proofs.YtajaobebcmlhaaaDoor.Pr
