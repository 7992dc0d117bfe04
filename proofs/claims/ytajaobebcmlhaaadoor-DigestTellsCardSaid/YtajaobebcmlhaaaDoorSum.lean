/-
  digest.Sum; the reference's Same; the law's pick and awake. Condition, where a text is summed: the words of the rounds lie where the program has them; the text is no longer than a machine's.
-/
import Derived.Test.YtajaobebcmlhaaaDoorEnd
import Derived.Test.YtajaobebcmlhaaaDoorFast
namespace Go.Proofs.YtajaobebcmlhaaaDoor.Pr
open Go.RowKit Go.Shelf Go.Proofs.YtajaobebcmlhaaaDoor.XB Go.Proofs.Sha Go.Proofs.YtajaobebcmlhaaaDoorW.PrintWords
attribute [local go_sem] Oper.semAt_some
set_option linter.unusedVariables false
set_option linter.unusedSimpArgs false
/-- A text's sum; and the error. -/
def sumH (s : ByteArray) : ByteArray × Int := if (s.size : Int) ≤ 1048576 then endH (addH newH s).1 else (ByteArray.empty, 2)
theorem addH_ok (s : ByteArray) (h : (s.size : Int) ≤ 1048576) : (addH newH s).2 = 0 := by
  unfold addH
  rw [if_pos (by rfl), if_neg (by show ¬ (1048576 - 0 : Int) < _; omega)]
theorem addH_long (s : ByteArray) (h : ¬ (s.size : Int) ≤ 1048576) : (addH newH s).2 = 2 := by
  unfold addH
  rw [if_pos (by rfl), if_pos (by show (1048576 - 0 : Int) < _; omega)]
set_option maxRecDepth 100000 in
theorem sum_calls (s : ByteArray) (w : World) (hG : Tbl w) :
    Calls Tryd.prog 27 #[.string s] w fun e w' => e = .returned (.tuple #[.string (sumH s).1, .int .i64 (sumH s).2]) ∧ Below w.heap.size w w' := by
  have HG := Lib.hid hG
  clear hG
  by_cases hs : (s.size : Int) ≤ 1048576
  · have h0 := addH_ok s hs
    have HS := Lib.hid (show sumH s = endH (addH newH s).1 by unfold sumH; rw [if_pos hs])
    have HA := Lib.hid (fun W (h : Tbl W) => add_calls newH s W h)
    have HE := Lib.hid (fun W (h : Tbl W) => end_calls (addH newH s).1 W h)
    generalize (addH newH s).1 = r at *
    generalize endH r = q at *
    simp only [h0] at HA
    rw [HS.out]
    simp only [hsc] at HE
    have hr1 : hsc r = hsc r := rfl
    go_enter Tryd.func27, Tryd.ntmps27
    go_wp2_with (first
      | (go_at_call 18; with_reducible refine (new_calls _).mono ?_; rintro e W1 ⟨rfl, hb⟩; have HB := Lib.hid hb; clear hb)
      | (with_reducible refine wpList_load_row rfl 25 (.tmp 4) rfl W2.heap.size rfl 25 (hsc r) (0, 0) _ HR.out Tryd.underlying25 rfl (by kernel_rfl) ?_)
      | (go_at_call 23; refine (HE.out _ (HG.out.below ((HB.out.trans (HB2.out.mono HB.out.size)).trans (HBR.out.mono (Nat.le_trans HB.out.size HB2.out.size))))).mono ?_; rintro e W3 ⟨rfl, hb⟩; have HB3 := Lib.hid hb; clear hb)
      | (go_at_call 17; refine (HA.out _ (HG.out.below HB.out)).mono ?_; rintro e W2 ⟨rfl, hb⟩; have HB2 := Lib.hid hb; clear hb)
      | (with_reducible refine wpList_store_row rfl 25 (.tmp 4) (.tmp 10) rfl W2.heap.size (hsc r) rfl (by first | rfl | kernel_rfl) 25 _ (heap_alloc_new W2 _) (by kernel_rfl) (by first | rfl | kernel_rfl) (by first | rfl | kernel_rfl) ?_; generalize hX : World.setRow _ W2.heap.size (hsc r) = X; have HR := (show Hid (X.heap[W2.heap.size]? = some (.cells (hsc r) 25 (0, 0))) from Lib.hid (by rw [← hX]; exact setRow_heap _ W2.heap.size _ (hsc r) 25 (0, 0) (heap_alloc_new W2 _))); have HBR := (show Hid (Below W2.heap.size W2 X) from Lib.hid (by rw [← hX]; exact below_setRow (below_alloc (Below.refl W2.heap.size W2) _) (Nat.le_refl _) (hsc r))); clear hX))
    go_ret2
    exact ⟨rfl, (((HB.out.trans (HB2.out.mono HB.out.size)).trans (HBR.out.mono (Nat.le_trans HB.out.size HB2.out.size))).trans (HB3.out.mono (Nat.le_trans HB.out.size (Nat.le_trans HB2.out.size HBR.out.size))))⟩
  · have h0 := addH_long s hs
    have HS := Lib.hid (show sumH s = (ByteArray.empty, 2) by unfold sumH; rw [if_neg hs])
    have HA := Lib.hid (fun W (h : Tbl W) => add_calls newH s W h)
    generalize (addH newH s).1 = r at *
    simp only [h0] at HA
    rw [HS.out]
    go_enter Tryd.func27, Tryd.ntmps27
    go_wp2_with (first
      | (go_at_call 18; with_reducible refine (new_calls _).mono ?_; rintro e W1 ⟨rfl, hb⟩; have HB := Lib.hid hb; clear hb)
      | (with_reducible refine wpList_load_row rfl 25 (.tmp 4) rfl W2.heap.size rfl 25 (hsc r) (0, 0) _ HR.out Tryd.underlying25 rfl (by kernel_rfl) ?_)
      | (go_at_call 23; refine (HE.out _ (HG.out.below ((HB.out.trans (HB2.out.mono HB.out.size)).trans (HBR.out.mono (Nat.le_trans HB.out.size HB2.out.size))))).mono ?_; rintro e W3 ⟨rfl, hb⟩; have HB3 := Lib.hid hb; clear hb)
      | (go_at_call 17; refine (HA.out _ (HG.out.below HB.out)).mono ?_; rintro e W2 ⟨rfl, hb⟩; have HB2 := Lib.hid hb; clear hb)
      | (with_reducible refine wpList_store_row rfl 25 (.tmp 4) (.tmp 10) rfl W2.heap.size (hsc r) rfl (by first | rfl | kernel_rfl) 25 _ (heap_alloc_new W2 _) (by kernel_rfl) (by first | rfl | kernel_rfl) (by first | rfl | kernel_rfl) ?_; generalize hX : World.setRow _ W2.heap.size (hsc r) = X; have HR := (show Hid (X.heap[W2.heap.size]? = some (.cells (hsc r) 25 (0, 0))) from Lib.hid (by rw [← hX]; exact setRow_heap _ W2.heap.size _ (hsc r) 25 (0, 0) (heap_alloc_new W2 _))); have HBR := (show Hid (Below W2.heap.size W2 X) from Lib.hid (by rw [← hX]; exact below_setRow (below_alloc (Below.refl W2.heap.size W2) _) (Nat.le_refl _) (hsc r))); clear hX))
    go_ret2
    exact ⟨rfl, ((HB.out.trans (HB2.out.mono HB.out.size)).trans (HBR.out.mono (Nat.le_trans HB.out.size HB2.out.size)))⟩
theorem info22 : ∃ i, Tryd.prog.info? 22 = some i ∧ i.size = 1 := by
  have h : (Tryd.prog.info? 22).isSome = true := by kernel_rfl
  refine ⟨(Tryd.prog.info? 22).get h, by simp, ?_⟩ <;> kernel_rfl
theorem eq8 (v : S8) (W : World) :
    Sem.run Tryd.prog (Op.equalIn 10000 23 (.agg #[.int .u32 (u v.a), .int .u32 (u v.b), .int .u32 (u v.c), .int .u32 (u v.d), .int .u32 (u v.e), .int .u32 (u v.f), .int .u32 (u v.g), .int .u32 (u v.h)]) (.agg #[.int .u32 (u v.a), .int .u32 (u v.b), .int .u32 (u v.c), .int .u32 (u v.d), .int .u32 (u v.e), .int .u32 (u v.f), .int .u32 (u v.g), .int .u32 (u v.h)])) W = .ok true W := by
  obtain ⟨i, hi, hs⟩ := info22
  show Sem.run Tryd.prog (Op.equalIn (9999 + 1) 23 _ _) W = _
  have hz : ∀ a b : Int, ∀ W, Sem.run Tryd.prog (Op.equalIn 9999 22 (.int .u32 a) (.int .u32 b)) W = .ok (a == b) W := fun a b W => run_equalIn_int W 9998 22 .u32 .u32 a b Tryd.underlying22
  unfold Op.equalIn
  simp [run_underlying Tryd.underlying23, run_underlying Tryd.underlying22, sizeOf, typeInfo, hi, hs, part, hz, isAgg, show List.range' 0 8 = [0, 1, 2, 3, 4, 5, 6, 7] from rfl]
set_option maxRecDepth 100000 in
theorem same_calls (x : Hs) (w : World) :
    Calls Tryd.prog 21 #[.agg (hsc x), .agg (hsc x)] w fun e w' => e = .returned (.bool true) ∧ Below w.heap.size w w' := by
  simp only [hsc]
  go_enter Tryd.func21, Tryd.ntmps21
  have G0 := heap_alloc2_old w (.cells (hsc x) 25) (.cells (hsc x) 25)
  have G1 := heap_alloc2_new w (.cells (hsc x) 25) (.cells (hsc x) 25)
  have ke := fun W => eq8 x.H W
  unfold hsc at G0 G1
  go_wp2
  go_ret
  exact ⟨rfl, below_alloc (below_alloc (Below.refl _ _) _) _⟩
def pickN (a n : Int) : Int := (if a < 0 then -(a + 1) else a) % n
set_option maxRecDepth 100000 in
theorem pick_calls (a n : Int) (w : World) (h0 : -9223372036854775808 ≤ a) (h1 : a ≤ 9223372036854775807) (hn : 0 < n) (hn1 : n ≤ 9223372036854775807) :
    Calls Tryd.prog 22 #[.int .i64 a, .int .i64 n] w fun e w' => e = .returned (.int .i64 (pickN a n)) ∧ w' = w := by
  unfold pickN
  by_cases ha : a < 0
  · go_enter Tryd.func22, Tryd.ntmps22
    go_wp2
    have hp : -((a + 1).tmod n) = -(a + 1) % n := by rw [← Int.neg_tmod, Int.tmod_eq_emod_of_nonneg (by omega)]
    rw [hp]
    go_ret
    exact ⟨rfl, rfl⟩
  · go_enter Tryd.func22, Tryd.ntmps22
    go_wp2
    go_ret
    exact ⟨rfl, rfl⟩
theorem two (v : S8) : (⟨(outL v 8).toArray⟩ : ByteArray).extract 0 6 = ⟨(by4 v.a ++ (by4 v.b).take 2).toArray⟩ := by
  apply ByteArray.ext
  rw [ByteArray.data_extract]
  rfl
theorem by4_of (v : U) (n : Nat) (h : v.toNat = n) : by4 v = [UInt8.ofNat (n / 16777216), UInt8.ofNat (n / 65536), UInt8.ofNat (n / 256), UInt8.ofNat n] := by subst h; rfl
def abcB : ByteArray := ⟨#[97, 98, 99]⟩
def none_ : ByteArray := ⟨(128 :: List.replicate 63 0).toArray⟩
def abc_ : ByteArray := ⟨(97 :: 98 :: 99 :: 128 :: (List.replicate 59 0 ++ [24])).toArray⟩
theorem sum_none : sumH ByteArray.empty = (⟨(outL (all start8 (fullT newH)) 8).toArray⟩, 0) := rfl
theorem sum_abc : sumH abcB = (⟨(outL (all start8 (fullT ⟨start8, abcB, 3⟩)) 8).toArray⟩, 0) := by
  have h1 : addH newH abcB = (⟨start8, abcB, 3⟩, 0) := by
    unfold addH
    rw [if_pos (by rfl), if_neg (by decide)]
    rfl
  unfold sumH
  rw [if_pos (by decide), h1]
  rfl
set_option maxRecDepth 100000 in
theorem full_none : fullT newH = none_ := by decide +kernel
set_option maxRecDepth 100000 in
theorem full_abc : fullT ⟨start8, abcB, 3⟩ = abc_ := by decide +kernel
theorem all_one (t : ByteArray) (h : t.size / 64 = 1) : Fast.pk (all start8 t) = Fast.fm t (Fast.pk start8) 1 := by
  unfold all; rw [h]; exact Fast.many_eq _ _ 1
set_option maxRecDepth 100000 in
theorem words_none : (all start8 (fullT newH)).a.toNat = 0xe3b0c442 ∧ (all start8 (fullT newH)).b.toNat = 0x98fc1c14 := by
  rw [full_none]
  have h := all_one none_ (by decide +kernel)
  have hw := Fast.w_pk (all start8 none_)
  rw [← hw.1, ← hw.2.1, h]
  exact ⟨by decide +kernel, by decide +kernel⟩
set_option maxRecDepth 100000 in
theorem words_abc : (all start8 (fullT ⟨start8, abcB, 3⟩)).a.toNat = 0xba7816bf ∧ (all start8 (fullT ⟨start8, abcB, 3⟩)).b.toNat = 0x8f01cfea := by
  rw [full_abc]
  have h := all_one abc_ (by decide +kernel)
  have hw := Fast.w_pk (all start8 abc_)
  rw [← hw.1, ← hw.2.1, h]
  exact ⟨by decide +kernel, by decide +kernel⟩
theorem out_size (v : S8) : (⟨(outL v 8).toArray⟩ : ByteArray).size = 32 := outL_len v 8
theorem said_none : (sumH ByteArray.empty).2 = 0 ∧ (sumH ByteArray.empty).1.size = 32 ∧ (sumH ByteArray.empty).1.extract 0 6 = ⟨#[227, 176, 196, 66, 152, 252]⟩ := by
  rw [sum_none]
  refine ⟨rfl, out_size _, ?_⟩
  rw [two, by4_of _ _ words_none.1, by4_of _ _ words_none.2]
  rfl
theorem said_abc : (sumH abcB).2 = 0 ∧ (sumH abcB).1.size = 32 ∧ (sumH abcB).1.extract 0 6 = ⟨#[186, 120, 22, 191, 143, 1]⟩ := by
  rw [sum_abc]
  refine ⟨rfl, out_size _, ?_⟩
  rw [two, by4_of _ _ words_abc.1, by4_of _ _ words_abc.2]
  rfl
def oddH : Hs := ⟨zero8, ByteArray.empty, 1⟩
theorem end_odd : endH oddH = (ByteArray.empty, 1) := rfl
set_option maxRecDepth 100000 in
set_option maxHeartbeats 4000000 in
theorem awake_calls (w : World) (hG : Tbl w) : Calls Tryd.prog 14 #[] w fun e w' => e = .returned (.bool true) ∧ Below w.heap.size w w' := by
  have HG := Lib.hid hG
  clear hG
  have HN := Lib.hid (fun W (h : Tbl W) => sum_calls ByteArray.empty W h)
  have HA := Lib.hid (fun W (h : Tbl W) => sum_calls abcB W h)
  obtain ⟨n0, n1, n2⟩ := said_none
  obtain ⟨a0, a1, a2⟩ := said_abc
  simp only [n0] at HN
  simp only [a0] at HA
  generalize (sumH ByteArray.empty).1 = sn at *
  generalize (sumH abcB).1 = sa at *
  have HO := Lib.hid (fun W (h : Tbl W) => end_calls oddH W h)
  simp only [end_odd] at HO
  have HC : Hid (∀ W, Calls Tryd.prog 15 #[.agg #[.int .u32 0, .int .u32 0, .int .u32 0, .int .u32 0, .int .u32 0, .int .u32 0, .int .u32 0, .int .u32 0], .string ⟨#[120]⟩] W fun e w' => e = .returned (.tuple #[.agg #[.int .u32 0, .int .u32 0, .int .u32 0, .int .u32 0, .int .u32 0, .int .u32 0, .int .u32 0, .int .u32 0], .int .i64 1]) ∧ Below W.heap.size W w') := Lib.hid (fun W => compress_err zero8 ⟨#[120]⟩ W (by decide))
  have HO' : Hid (∀ W, Tbl W → Calls Tryd.prog 23 #[.agg #[.int .u32 0, .int .u32 0, .int .u32 0, .int .u32 0, .int .u32 0, .int .u32 0, .int .u32 0, .int .u32 0, .string ⟨#[]⟩, .int .i64 1]] W fun e w' => e = .returned (.tuple #[.string ⟨#[]⟩, .int .i64 1]) ∧ Below W.heap.size W w') := Lib.hid (fun W h => HO.out W h)
  have HN' : Hid (∀ W, Tbl W → Calls Tryd.prog 27 #[.string ⟨#[]⟩] W fun e w' => e = .returned (.tuple #[.string sn, .int .i64 0]) ∧ Below W.heap.size W w') := Lib.hid (fun W h => HN.out W h)
  have HA' : Hid (∀ W, Tbl W → Calls Tryd.prog 27 #[.string ⟨#[97, 98, 99]⟩] W fun e w' => e = .returned (.tuple #[.string sa, .int .i64 0]) ∧ Below W.heap.size W w') := Lib.hid (fun W h => HA.out W h)
  clear HO HN HA
  go_enter Tryd.func14, Tryd.ntmps14
  go_wp2_with (first
    | (go_at_call 27; with_reducible refine (HN'.out _ HG.out).mono ?_; rintro e W1 ⟨rfl, hb⟩; have HB := Lib.hid hb; clear hb)
    | (go_at_call 27; with_reducible refine (HA'.out _ (HG.out.below HB.out)).mono ?_; rintro e W2 ⟨rfl, hb⟩; have HB2 := Lib.hid (HB.out.trans (hb.mono HB.out.size)); clear hb)
    | (go_at_call 15; with_reducible refine (HC.out _).mono ?_; rintro e W3 ⟨rfl, hb⟩; have HB3 := Lib.hid (HB2.out.trans (hb.mono HB2.out.size)); clear hb)
    | (go_at_call 23; with_reducible refine (HO'.out _ (HG.out.below (below_alloc HB3.out _))).mono ?_; rintro e W4 ⟨rfl, hb⟩; have HB4 := Lib.hid ((below_alloc HB3.out _).trans (hb.mono (below_alloc HB3.out _).size)); clear hb)
    | (go_at_call 18; with_reducible refine (new_calls _).mono ?_; rintro e W5 ⟨rfl, hb⟩; have HB5 := Lib.hid (HB4.out.trans (hb.mono HB4.out.size)); clear hb)
    | (go_at_call 25; with_reducible refine (right_any newH _).mono ?_; rintro e W6 ⟨rfl, hb⟩; have HB6 := Lib.hid (HB5.out.trans (hb.mono HB5.out.size)); clear hb))
  rw [show rightH newH = true from rfl]
  go_ret
  exact ⟨rfl, HB6.out⟩
end Go.Proofs.YtajaobebcmlhaaaDoor.Pr
