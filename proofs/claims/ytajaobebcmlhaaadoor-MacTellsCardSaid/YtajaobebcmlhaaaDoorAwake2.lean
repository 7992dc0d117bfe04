/-
  Layer 2's examples: a tag is reckoned in the kernel; the law's awake and pick. Condition: the words of the rounds lie where the program has them.
-/
import Derived.Test.YtajaobebcmlhaaaDoorDerive
import Derived.Test.YtajaobebcmlhaaaDoorSameW
import Derived.Test.YtajaobebcmlhaaaDoorFast
namespace Go.Proofs.YtajaobebcmlhaaaDoor.Pr
open Go.RowKit Go.Shelf Go.Proofs.YtajaobebcmlhaaaDoor.XB Go.Proofs.Sha Go.Proofs.YtajaobebcmlhaaaDoorW.PrintWords
attribute [local go_sem] Oper.semAt_some
set_option linter.unusedVariables false
set_option linter.unusedSimpArgs false
theorem sum_pad (t : ByteArray) (h : t.size ≤ 1048576) : (sumH t).1 = ⟨(outL (all start8 (t ++ ⟨(padL (t.size % 64) t.size).toArray⟩)) 8).toArray⟩ := by
  rw [st_sum t h]
  unfold endH
  rw [if_pos (st_right t h)]
  show (⟨(outL (all (all start8 t) (tailOf t ++ ⟨(padL (tailOf t).size (t.size : Int).toNat).toArray⟩)) 8).toArray⟩ : ByteArray) = _
  rw [all_two, tail_size, Int.toNat_natCast]
def hiKey : ByteArray := ⟨#[11, 11, 11, 11, 11, 11, 11, 11, 11, 11, 11, 11, 11, 11, 11, 11, 11, 11, 11, 11]⟩
def hiText : ByteArray := ⟨#[72, 105, 32, 84, 104, 101, 114, 101]⟩
def hi1 : ByteArray := ⟨#[61, 61, 61, 61, 61, 61, 61, 61, 61, 61, 61, 61, 61, 61, 61, 61, 61, 61, 61, 61, 54, 54, 54, 54, 54, 54, 54, 54, 54, 54, 54, 54, 54, 54, 54, 54, 54, 54, 54, 54, 54, 54, 54, 54, 54, 54, 54, 54, 54, 54, 54, 54, 54, 54, 54, 54, 54, 54, 54, 54, 54, 54, 54, 54, 72, 105, 32, 84, 104, 101, 114, 101, 128, 0, 0, 0, 0, 0, 0, 0, 0, 0, 0, 0, 0, 0, 0, 0, 0, 0, 0, 0, 0, 0, 0, 0, 0, 0, 0, 0, 0, 0, 0, 0, 0, 0, 0, 0, 0, 0, 0, 0, 0, 0, 0, 0, 0, 0, 0, 0, 0, 0, 0, 0, 0, 0, 2, 64]⟩
def hi2 : ByteArray := ⟨#[87, 87, 87, 87, 87, 87, 87, 87, 87, 87, 87, 87, 87, 87, 87, 87, 87, 87, 87, 87, 92, 92, 92, 92, 92, 92, 92, 92, 92, 92, 92, 92, 92, 92, 92, 92, 92, 92, 92, 92, 92, 92, 92, 92, 92, 92, 92, 92, 92, 92, 92, 92, 92, 92, 92, 92, 92, 92, 92, 92, 92, 92, 92, 92, 146, 171, 77, 154, 31, 59, 97, 82, 188, 169, 221, 158, 105, 175, 67, 244, 206, 153, 228, 47, 212, 227, 15, 249, 114, 196, 128, 37, 185, 249, 207, 239, 128, 0, 0, 0, 0, 0, 0, 0, 0, 0, 0, 0, 0, 0, 0, 0, 0, 0, 0, 0, 0, 0, 0, 0, 0, 0, 0, 0, 0, 0, 3, 0]⟩
def hiIn : S8 := ⟨2460700058, 523985234, 3165248926, 1773093876, 3466191919, 3571650553, 1925480485, 3120156655⟩
set_option maxRecDepth 100000 in
theorem hi_in : mixB (zpad (keyB hiKey)) 54 ++ hiText ++ ⟨(padL 8 72).toArray⟩ = hi1 := by decide +kernel
set_option maxRecDepth 100000 in
theorem hi_out : mixB (zpad (keyB hiKey)) 92 ++ ⟨(outL hiIn 8).toArray⟩ ++ ⟨(padL 32 96).toArray⟩ = hi2 := by decide +kernel
theorem hi_two (t : ByteArray) (h : t.size / 64 = 2) : Fast.pk (all start8 t) = Fast.fm t (Fast.pk start8) 2 := by
  unfold all; rw [h]; exact Fast.many_eq _ _ 2
set_option maxRecDepth 100000 in
theorem hi_words : all start8 hi1 = hiIn := by
  have hw := Fast.w_pk (all start8 hi1)
  rw [hi_two hi1 (by decide +kernel)] at hw
  have k : Fast.w_ (Fast.fm hi1 (Fast.pk start8) 2) 0 = 2460700058 ∧ Fast.w_ (Fast.fm hi1 (Fast.pk start8) 2) 1 = 523985234 ∧ Fast.w_ (Fast.fm hi1 (Fast.pk start8) 2) 2 = 3165248926 ∧ Fast.w_ (Fast.fm hi1 (Fast.pk start8) 2) 3 = 1773093876 ∧ Fast.w_ (Fast.fm hi1 (Fast.pk start8) 2) 4 = 3466191919 ∧ Fast.w_ (Fast.fm hi1 (Fast.pk start8) 2) 5 = 3571650553 ∧ Fast.w_ (Fast.fm hi1 (Fast.pk start8) 2) 6 = 1925480485 ∧ Fast.w_ (Fast.fm hi1 (Fast.pk start8) 2) 7 = 3120156655 := by decide +kernel
  obtain ⟨a, b, c, d, e, f, g, h⟩ := hw
  obtain ⟨a1, b1, c1, d1, e1, f1, g1, h1⟩ := k
  rw [a1] at a; rw [b1] at b; rw [c1] at c; rw [d1] at d; rw [e1] at e; rw [f1] at f; rw [g1] at g; rw [h1] at h
  generalize all start8 hi1 = v at *
  obtain ⟨va, vb, vc, vd, ve, vf, vg, vh⟩ := v
  simp only [hiIn, S8.mk.injEq]
  exact ⟨BitVec.eq_of_toNat_eq a.symm, BitVec.eq_of_toNat_eq b.symm, BitVec.eq_of_toNat_eq c.symm, BitVec.eq_of_toNat_eq d.symm, BitVec.eq_of_toNat_eq e.symm, BitVec.eq_of_toNat_eq f.symm, BitVec.eq_of_toNat_eq g.symm, BitVec.eq_of_toNat_eq h.symm⟩
set_option maxRecDepth 100000 in
theorem hi_word : (all start8 hi2).a.toNat = 0xb0344c61 := by
  have hw := Fast.w_pk (all start8 hi2)
  rw [hi_two hi2 (by decide +kernel)] at hw
  rw [← hw.1]
  decide +kernel
theorem hi_mix (b : UInt8) : (mixB (zpad (keyB hiKey)) b).size = 64 := by rw [mixB_size]; exact zpad_size _ (keyB_size _ (by decide +kernel))
theorem hi_tag : tagB hiKey hiText = ⟨(outL (all start8 hi2) 8).toArray⟩ := by
  have e1 : (sumH (mixB (zpad (keyB hiKey)) 54 ++ hiText)).1 = ⟨(outL hiIn 8).toArray⟩ := by
    have hs : (mixB (zpad (keyB hiKey)) 54 ++ hiText).size = 72 := by rw [ByteArray.size_append, hi_mix]; rfl
    rw [sum_pad _ (by omega), hs, hi_in, hi_words]
  unfold tagB
  rw [e1]
  have hs : (mixB (zpad (keyB hiKey)) 92 ++ ⟨(outL hiIn 8).toArray⟩).size = 96 := by rw [ByteArray.size_append, hi_mix, out_size]
  rw [sum_pad _ (by omega), hs, hi_out]
theorem four (v : S8) : (⟨(outL v 8).toArray⟩ : ByteArray).extract 0 4 = ⟨(by4 v.a).toArray⟩ := by
  apply ByteArray.ext
  rw [ByteArray.data_extract]
  rfl
theorem hi_said : (macH hiKey hiText).2 = 0 ∧ (macH hiKey hiText).1.size = 32 ∧ (macH hiKey hiText).1.extract 0 4 = ⟨#[176, 52, 76, 97]⟩ := by
  have e : macH hiKey hiText = (tagB hiKey hiText, 0) := by unfold macH; rw [if_neg (by decide +kernel), if_neg (by decide +kernel)]
  rw [e]
  have h1 := hi_tag
  have h2 := tagB_size hiKey hiText (by decide +kernel) (by decide +kernel)
  generalize tagB hiKey hiText = T at *
  refine ⟨rfl, h2, ?_⟩
  show T.extract 0 4 = _
  rw [h1, four, by4_of _ _ hi_word]
  rfl
def nameB : ByteArray := ⟨#[110, 97, 109, 101]⟩
theorem der_40 : ∃ D, derH hiKey nameB 40 = (D, 0) ∧ D.size = 40 := by
  refine ⟨_, by unfold derH; rw [if_pos ⟨⟨by decide +kernel, by decide +kernel⟩, by decide, by decide⟩], ?_⟩
  rw [ByteArray.size_extract, dall_size _ _ (by decide +kernel) (by decide +kernel)]
  rfl
theorem der_neg : derH hiKey nameB (-1) = (ByteArray.empty, 1) := by
  unfold derH; rw [if_neg (by rintro ⟨_, h, _⟩; exact absurd h (by decide))]
set_option maxRecDepth 100000 in
theorem pick2_calls (a n : Int) (w : World) (h0 : -9223372036854775808 ≤ a) (h1 : a ≤ 9223372036854775807) (hn : 0 < n) (hn1 : n ≤ 9223372036854775807) :
    Calls Tryd.prog 30 #[.int .i64 a, .int .i64 n] w fun e w' => e = .returned (.int .i64 (pickN a n)) ∧ w' = w := by
  unfold pickN
  by_cases ha : a < 0
  · go_enter Tryd.func30, Tryd.ntmps30
    go_wp2
    have hp : -((a + 1).tmod n) = -(a + 1) % n := by rw [← Int.neg_tmod, Int.tmod_eq_emod_of_nonneg (by omega)]
    rw [hp]
    go_ret
    exact ⟨rfl, rfl⟩
  · go_enter Tryd.func30, Tryd.ntmps30
    go_wp2
    go_ret
    exact ⟨rfl, rfl⟩
set_option maxRecDepth 100000 in
set_option maxHeartbeats 4000000 in
theorem awake2_calls (w : World) (hG : Tbl w) : Calls Tryd.prog 29 #[] w fun e w' => e = .returned (.bool true) ∧ Below w.heap.size w w' := by
  have HG := Lib.hid hG
  clear hG
  obtain ⟨a0, a1, a2⟩ := hi_said
  obtain ⟨D, d0, d1⟩ := der_40
  have hA : ∀ W, Tbl W → Calls Tryd.prog 31 #[.string ⟨#[11, 11, 11, 11, 11, 11, 11, 11, 11, 11, 11, 11, 11, 11, 11, 11, 11, 11, 11, 11]⟩, .string ⟨#[72, 105, 32, 84, 104, 101, 114, 101]⟩] W fun e w' => e = .returned (.tuple #[.string (macH hiKey hiText).1, .int .i64 0]) ∧ Below W.heap.size W w' := fun W q => by have := mac_calls hiKey hiText W q; rw [a0] at this; exact this
  have hD : ∀ W, Tbl W → Calls Tryd.prog 33 #[.string ⟨#[11, 11, 11, 11, 11, 11, 11, 11, 11, 11, 11, 11, 11, 11, 11, 11, 11, 11, 11, 11]⟩, .string ⟨#[110, 97, 109, 101]⟩, .int .i64 40] W fun e w' => e = .returned (.tuple #[.string D, .int .i64 0]) ∧ Below W.heap.size W w' := fun W q => by have := derive_calls hiKey nameB 40 W q (by decide) (by decide); rw [d0] at this; exact this
  have hN : ∀ W, Tbl W → Calls Tryd.prog 33 #[.string ⟨#[11, 11, 11, 11, 11, 11, 11, 11, 11, 11, 11, 11, 11, 11, 11, 11, 11, 11, 11, 11]⟩, .string ⟨#[110, 97, 109, 101]⟩, .int .i64 (-1)] W fun e w' => e = .returned (.tuple #[.string ⟨#[]⟩, .int .i64 1]) ∧ Below W.heap.size W w' := fun W q => by have := derive_calls hiKey nameB (-1) W q (by decide) (by decide); rw [der_neg] at this; exact this
  have hS : ∀ W, Calls Tryd.prog 35 #[.string ⟨#[97, 98, 99]⟩, .string ⟨#[97, 98, 99]⟩] W fun e w' => e = .returned (.tuple #[.bool true, .int .i64 3]) ∧ Below W.heap.size W w' := fun W => macsame_calls ⟨#[97, 98, 99]⟩ ⟨#[97, 98, 99]⟩ W (by decide)
  have hT : ∀ W, Calls Tryd.prog 35 #[.string ⟨#[97, 98, 99]⟩, .string ⟨#[97, 98, 100]⟩] W fun e w' => e = .returned (.tuple #[.bool false, .int .i64 3]) ∧ Below W.heap.size W w' := fun W => macsame_calls ⟨#[97, 98, 99]⟩ ⟨#[97, 98, 100]⟩ W (by decide)
  have hU : ∀ W, Calls Tryd.prog 35 #[.string ⟨#[97, 98, 99]⟩, .string ⟨#[97, 98]⟩] W fun e w' => e = .returned (.tuple #[.bool false, .int .i64 0]) ∧ Below W.heap.size W w' := fun W => macsame_calls ⟨#[97, 98, 99]⟩ ⟨#[97, 98]⟩ W (by decide)
  generalize (macH hiKey hiText).1 = A at *
  have HA := Lib.hid hA
  have HD := Lib.hid hD
  have HN := Lib.hid hN
  have HS := Lib.hid hS
  have HT := Lib.hid hT
  have HU := Lib.hid hU
  clear a0 d0 hA hD hN hS hT hU
  go_enter Tryd.func29, Tryd.ntmps29
  go_wp2_with (first
    | (go_at_call 31; with_reducible refine (HA.out _ HG.out).mono ?_; rintro e W1 ⟨rfl, hb⟩; have HB1 := Lib.hid hb; clear hb)
    | (go_at_call 33; with_reducible refine (HD.out _ (HG.out.below HB1.out)).mono ?_; rintro e W2 ⟨rfl, hb⟩; have HB2 := Lib.hid (HB1.out.trans (hb.mono HB1.out.size)); clear hb)
    | (go_at_call 33; with_reducible refine (HN.out _ (HG.out.below HB2.out)).mono ?_; rintro e W3 ⟨rfl, hb⟩; have HB3 := Lib.hid (HB2.out.trans (hb.mono HB2.out.size)); clear hb)
    | (go_at_call 35; with_reducible refine (HS.out _).mono ?_; rintro e W4 ⟨rfl, hb⟩; have HB4 := Lib.hid (HB3.out.trans (hb.mono HB3.out.size)); clear hb)
    | (go_at_call 35; with_reducible refine (HT.out _).mono ?_; rintro e W5 ⟨rfl, hb⟩; have HB5 := Lib.hid (HB4.out.trans (hb.mono HB4.out.size)); clear hb)
    | (go_at_call 35; with_reducible refine (HU.out _).mono ?_; rintro e W6 ⟨rfl, hb⟩; have HB6 := Lib.hid (HB5.out.trans (hb.mono HB5.out.size)); clear hb))
  go_ret
  exact ⟨rfl, HB6.out⟩
end Go.Proofs.YtajaobebcmlhaaaDoor.Pr
