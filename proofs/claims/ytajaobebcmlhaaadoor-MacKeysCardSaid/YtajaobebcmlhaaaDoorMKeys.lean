/-
  The law MacKeys: walked. Condition: the words of the rounds lie where the program has them; the number is an int's.
-/
import Derived.Test.YtajaobebcmlhaaaDoorRefSum
import Derived.Test.YtajaobebcmlhaaaDoorBegins
import Derived.Test.YtajaobebcmlhaaaDoorLong
namespace Go.Proofs.YtajaobebcmlhaaaDoor.Pr
open Go.RowKit Go.Shelf Go.Proofs.YtajaobebcmlhaaaDoor.XB Go.Proofs.Sha Go.Proofs.YtajaobebcmlhaaaDoorW.PrintWords
attribute [local go_sem] Oper.semAt_some
set_option linter.unusedVariables false
set_option linter.unusedSimpArgs false
set_option maxRecDepth 100000
theorem keyB_long (k : ByteArray) (h : 64 < k.size) (h2 : k.size ≤ 1000) : keyB k = (sumH k).1 ∧ (sumH k).1.size = 32 ∧ keyB (sumH k).1 = (sumH k).1 := by
  have hs := (sum_size k (by omega)).1
  refine ⟨by unfold keyB; rw [if_pos h], hs, ?_⟩
  generalize (sumH k).1 = z at *
  unfold keyB; rw [if_neg (by omega)]
theorem tag_long (k x : ByteArray) (h : 64 < k.size) (h2 : k.size ≤ 1000) : tagB (sumH k).1 x = tagB k x := by
  obtain ⟨e1, _, e3⟩ := keyB_long k h h2
  have e : keyB (sumH k).1 = keyB k := e3.trans e1.symm
  unfold tagB
  rw [e]
theorem zpad_more (k : ByteArray) (j : Nat) (h : k.size + j ≤ 64) : zpad (k ++ zs j) = zpad k := by
  unfold zpad
  rw [ByteArray.size_append, zs_size]
  unfold zs
  apply ByteArray.ext
  simp only [ByteArray.data_append, Array.append_assoc]
  congr 1
  apply Array.toList_inj.1
  rw [Array.toList_append]
  show List.replicate j 0 ++ List.replicate (64 - (k.size + j)) 0 = List.replicate (64 - k.size) 0
  rw [List.replicate_append_replicate]
  congr 1; omega
theorem tag_more (k x : ByteArray) (j : Nat) (h : k.size + j ≤ 64) : tagB (k ++ zs j) x = tagB k x := by
  have e1 : keyB (k ++ zs j) = k ++ zs j := by unfold keyB; rw [if_neg (by rw [ByteArray.size_append, zs_size]; omega)]
  have e2 : keyB k = k := by unfold keyB; rw [if_neg (by omega)]
  unfold tagB
  rw [e1, e2, zpad_more k j h]
set_option maxHeartbeats 4000000 in
theorem keys_calls (key s : ByteArray) (c : Int) (w : World) (hG : Tbl w) (hc0 : -9223372036854775808 ≤ c) (hc1 : c ≤ 9223372036854775807) :
    Calls Tryd.prog 10 #[.string key, .string s, .int .i64 c] w fun e w' => e = .returned (.bool true) ∧ Below w.heap.size w w' := by
  have HG := Lib.hid hG
  clear hG
  have hm0 : (0 : Int) ≤ min (key.size : Int) 200 := by omega
  have hm1 : min (key.size : Int) 200 ≤ (key.size : Int) := by omega
  have hn0 : (0 : Int) ≤ min (s.size : Int) 300 := by omega
  have hn1 : min (s.size : Int) 300 ≤ (s.size : Int) := by omega
  have hks : (key.extract 0 (min (key.size : Int) 200).toNat).size ≤ 200 := by rw [ByteArray.size_extract]; omega
  have hxs : (s.extract 0 (min (s.size : Int) 300).toNat).size ≤ 300 := by rw [ByteArray.size_extract]; omega
  go_enter Tryd.func10, Tryd.ntmps10
  go_wp2_with (first
    | (go_at_call 29; with_reducible refine (awake2_calls _ HG.out).mono ?_; rintro e W1 ⟨rfl, hb⟩; have HB1 := Lib.hid hb; clear hb))
  generalize key.extract 0 (min (key.size : Int) 200).toNat = k at *
  generalize s.extract 0 (min (s.size : Int) 300).toNat = x at *
  have HT : Hid (∀ W, Tbl W → Calls Tryd.prog 31 #[.string k, .string x] W fun e w' => e = .returned (.tuple #[.string (tagB k x), .int .i64 0]) ∧ Below W.heap.size W w') := Lib.hid (fun W g => by have := mac_calls k x W g; rw [macH_ok k x (by omega) (by omega)] at this; exact this)
  have hts := tagB_size k x (by omega) (by omega)
  clear hm0 hm1 hn0 hn1
  by_cases h : 64 < k.size
  · have hi : (64 : Int) < (k.size : Int) := by omega
    obtain ⟨_, k1, _⟩ := keyB_long k h (by omega)
    have HW := Lib.hid (fun W => whole_calls k W)
    have HU : Hid (∀ W, Tbl W → Calls Tryd.prog 31 #[.string (sumH k).1, .string x] W fun e w' => e = .returned (.tuple #[.string (tagB k x), .int .i64 0]) ∧ Below W.heap.size W w') := Lib.hid (fun W g => by have := mac_calls (sumH k).1 x W g; rw [macH_ok (sumH k).1 x (by omega) (by omega), tag_long k x h (by omega)] at this; exact this)
    clear k1
    generalize (sumH k).1 = z at *
    generalize tagB k x = T at *
    go_wp2_with (first
      | (go_at_call 31; with_reducible refine (HT.out _ (HG.out.below HB1.out)).mono ?_; rintro e W2 ⟨rfl, hb⟩; have HB2 := Lib.hid (HB1.out.trans (hb.mono HB1.out.size)); clear hb)
      | (go_at_call 37; with_reducible refine (HW.out _).mono ?_; rintro e W3 ⟨rfl, hb⟩; have HB3 := Lib.hid (HB2.out.trans (hb.mono HB2.out.size)); clear hb)
      | (go_at_call 31; with_reducible refine (HU.out _ (HG.out.below HB3.out)).mono ?_; rintro e W4 ⟨rfl, hb⟩; have HB4 := Lib.hid (HB3.out.trans (hb.mono HB3.out.size)); clear hb))
    go_ret
    exact ⟨rfl, HB4.out⟩
  · have hi : ¬ (64 : Int) < (k.size : Int) := by omega
    obtain ⟨j, hj, hj1⟩ : ∃ j : Nat, pickN c (65 - (k.size : Int)) = (j : Int) ∧ k.size + j ≤ 64 := ⟨(pickN c (65 - (k.size : Int))).toNat, by
        have h1 := Int.emod_nonneg (if c < 0 then -(c + 1) else c) (show (65 - (k.size : Int)) ≠ 0 by omega)
        unfold pickN; omega, by
        have h1 := Int.emod_nonneg (if c < 0 then -(c + 1) else c) (show (65 - (k.size : Int)) ≠ 0 by omega)
        have h2 := Int.emod_lt_of_pos (if c < 0 then -(c + 1) else c) (show 0 < (65 - (k.size : Int)) by omega)
        unfold pickN; omega⟩
    have hpc := fun W => pick2_calls c (65 - (k.size : Int)) W hc0 hc1 (by omega) (by omega)
    rw [hj] at hpc
    have HPC := Lib.hid hpc
    clear hpc hj
    have HU : Hid (∀ W, Tbl W → Calls Tryd.prog 31 #[.string (k ++ zs j), .string x] W fun e w' => e = .returned (.tuple #[.string (tagB k x), .int .i64 0]) ∧ Below W.heap.size W w') := Lib.hid (fun W g => by have := mac_calls (k ++ zs j) x W g; rw [macH_ok (k ++ zs j) x (by rw [ByteArray.size_append, zs_size]; omega) (by omega), tag_more k x j hj1] at this; exact this)
    have hm := run_mk j (by omega)
    have kv := fun (W : World) (g : Nat) (q : W.heap[g]? = some (.cells (zc j) 5 (0, 0))) => run_cv j W g (0, 0) q
    have f0 : ∀ (W : World) (o : Obj), (W.alloc o).heap = W.heap.push o := fun _ _ => rfl
    have f5 : ∀ (xs : Array Obj) (o : Obj) (i : Nat), (xs.push o)[i]? = if i = xs.size then some o else xs[i]? := fun _ _ _ => Array.getElem?_push
    have q1 : ¬ 9223372036854775807 < k.size + (zs j).size := by rw [zs_size]; omega
    generalize tagB k x = T at *
    go_wp2_with (first
      | (go_at_call 31; with_reducible refine (HT.out _ (HG.out.below HB1.out)).mono ?_; rintro e W2 ⟨rfl, hb⟩; have HB2 := Lib.hid (HB1.out.trans (hb.mono HB1.out.size)); clear hb)
      | (go_at_call 30; with_reducible refine (HPC.out _).mono ?_; rintro e W3 ⟨rfl, rfl⟩)
      | (go_at_call 31; refine (HU.out _ (HG.out.below (two_below HB2.out))).mono ?_; rintro e W4 ⟨rfl, hb⟩; have HB4 := Lib.hid (two_chain HB2.out hb); clear hb))
    go_ret
    exact ⟨rfl, HB4.out⟩
end Go.Proofs.YtajaobebcmlhaaaDoor.Pr
