/-
  A part of what the row VaultCrashes reaches, laid together by a program of this session (wip/tools/shake.py) out of this seat's texts. No condition but the ones that each lemma names.
-/
import Derived.OpenShut
import Derived.ProofKit
import Derived.DataElems
import Derived.Test.YtcfinlmocgbnbaaZVaultCrashes1
import Derived.Test.YtcfinlmocgbnbaaZVaultCrashes4
import Derived.Test.YtcfinlmocgbnbaaZVaultCrashes5
set_option linter.unusedVariables false
set_option linter.unusedSimpArgs false
section
set_option linter.unusedVariables false
set_option linter.unusedSimpArgs false
namespace Go.Proofs.Ytcfinlmocgbnbaa.Pr
open Go.RowKit Go.Proofs.YtcfinlmocgbnbaaW.PrintWords Go.Proofs.YtcfinlmocgbnbaaW.PrintLast Go.Proofs.YtcfinlmocgbnbaaW.PrintMore
theorem wr_r (i : Nat) (h : i < 1000000) : wrap64 ((i : Int) + 1) = ((i + 1 : Nat) : Int) := by unfold wrap64; omega
theorem rd24_r {l : List S24} {i : Nat} (hi : i < l.length) : rd_T24 l i = l[i] := by unfold rd_T24; simp [hi]
theorem rdS_r {l : List ByteArray} {i : Nat} (hi : i < l.length) : rdOf ByteArray.empty l i = l[i] := by unfold rdOf; simp [hi]
theorem may_eq (m : S24) (n : Int) : columbariumref14_may.f m.f0 m.f1 m.f2 n = some (!oddB n m) := by
  obtain ⟨f0, f1, f2⟩ := m
  unfold columbariumref14_may.f oddB
  cases f0
  · simp only [Bool.false_eq_true, if_false]
    by_cases h1 : f1 ≥ 0
    · by_cases h2 : f1 < n
      · rw [if_pos h1, if_pos h2]
        have e1 : decide (f1 < 0) = false := by simp; omega
        have e2 : decide (f1 ≥ n) = false := by simp; omega
        rw [e1, e2]
        by_cases h3 : (f2.size : Int) = 64 <;> simp [h3]
      · rw [if_pos h1, if_neg h2]
        have e2 : decide (f1 ≥ n) = true := by simp; omega
        rw [e2]
        simp
    · rw [if_neg h1]
      have e1 : decide (f1 < 0) = true := by simp; omega
      rw [e1]
      simp
  · simp only [if_true]
    by_cases h1 : f1 = 0
    · rw [if_pos h1]
      have := str_eq f2 ⟨#[]⟩
      rw [show (⟨#[]⟩ : ByteArray).toList = ([] : List UInt8) from by rw [ByteArray.toList_eq]] at this
      rw [this]
      by_cases h2 : f2 = ⟨#[]⟩ <;> simp [h1, h2]
    · rw [if_neg h1]
      simp [h1]
def badB (n : Int) (m : S24) : Bool := syncB m || oddB n m
theorem any_bad (n : Int) : ∀ so : List S24, (!(so.any syncB) && !(so.any (oddB n))) = !(so.any (badB n))
  | [] => rfl
  | m :: so => by
    simp only [List.any_cons]
    have := any_bad n so
    unfold badB at this ⊢
    cases syncB m <;> cases oddB n m <;> simp_all
theorem rright_l1 (su : List ByteArray) (so : List S24) (hz : so.length ≤ 100000) : ∀ (d i k : Nat), i + d = so.length → d < k → columbariumref14_Right.l1 k i su so = some (!((so.drop i).any (badB su.length)))
  | 0, i, k, h, hk => by
    obtain ⟨k, rfl⟩ : ∃ m, k = m + 1 := ⟨k - 1, by omega⟩
    simp only [columbariumref14_Right.l1]
    rw [if_neg (by omega), List.drop_eq_nil_of_le (by omega)]
    rfl
  | d + 1, i, k, h, hk => by
    obtain ⟨k, rfl⟩ : ∃ m, k = m + 1 := ⟨k - 1, by omega⟩
    have hi : i < so.length := by omega
    simp only [columbariumref14_Right.l1]
    rw [if_pos (by omega), if_pos (by omega), rd24_r hi, may_eq, Option.bind_some, wr_r i (by omega), rright_l1 su so hz d (i + 1) k (by omega) (by omega), List.drop_eq_getElem_cons hi, List.any_cons]
    have e : badB su.length so[i] = (so[i].f0 || oddB su.length so[i]) := rfl
    rw [e]
    cases so[i].f0 <;> cases oddB su.length so[i] <;> simp
theorem rright_l0 (su : List ByteArray) (so : List S24) (hz : so.length ≤ 100000) (hz2 : su.length ≤ 100000) : ∀ (d i k : Nat), i + d = su.length → d + so.length + 1 < k → columbariumref14_Right.l0 k i su so = some (!((su.drop i).any shortB) && !(so.any (badB su.length)))
  | 0, i, k, h, hk => by
    obtain ⟨k, rfl⟩ : ∃ m, k = m + 1 := ⟨k - 1, by omega⟩
    simp only [columbariumref14_Right.l0]
    rw [if_neg (by omega), List.drop_eq_nil_of_le (by omega)]
    have := rright_l1 su so hz so.length 0 k (by omega) (by omega)
    rw [List.drop_zero] at this
    exact this
  | d + 1, i, k, h, hk => by
    obtain ⟨k, rfl⟩ : ∃ m, k = m + 1 := ⟨k - 1, by omega⟩
    have hi : i < su.length := by omega
    simp only [columbariumref14_Right.l0]
    rw [if_pos (by omega), if_pos (by omega), rdS_r hi, wr_r i (by omega), rright_l0 su so hz hz2 d (i + 1) k (by omega) (by omega), List.drop_eq_getElem_cons hi, List.any_cons]
    have e : shortB su[i] = decide ((su[i].size : Int) ≠ 64) := rfl
    rw [e]
    by_cases h3 : (su[i].size : Int) = 64 <;> simp [h3]
theorem rright_eq (su : List ByteArray) (so : List S24) {k : Nat} (hk : 4000 < k) : columbariumref14_Right.f k su so = some (rightB su so) := by
  obtain ⟨k, rfl⟩ : ∃ m, k = m + 1 := ⟨k - 1, by omega⟩
  unfold columbariumref14_Right.f rightB
  rw [any_bad]
  by_cases h1 : (su.length : Int) < 1
  · rw [if_pos h1, show decide ((su.length : Int) ≥ 1) = false by simp; omega]
    simp [columbariumref14_Right.j0]
  · rw [if_neg h1, show decide ((su.length : Int) ≥ 1) = true by simp; omega]
    by_cases h2 : (su.length : Int) > 400
    · rw [if_pos h2, show decide ((su.length : Int) ≤ 400) = false by simp; omega]
      simp [columbariumref14_Right.j0]
    · rw [if_neg h2, show decide ((su.length : Int) ≤ 400) = true by simp; omega]
      by_cases h3 : (so.length : Int) > 3000
      · rw [show decide ((so.length : Int) > 3000) = true by simp; omega, show decide ((so.length : Int) ≤ 3000) = false by simp; omega]
        simp [columbariumref14_Right.j0]
      · rw [show decide ((so.length : Int) > 3000) = false by simp; omega, show decide ((so.length : Int) ≤ 3000) = true by simp; omega]
        simp only [columbariumref14_Right.j0, Bool.false_eq_true, if_false]
        have := rright_l0 su so (by omega) (by omega) su.length 0 k (by omega) (by omega)
        rw [List.drop_zero] at this
        simpa using this
theorem rown_eq {su : List ByteArray} {so : List S24} (h1 : su.length < 1000000) (h2 : so.length < 1000000) : columbariumref14_Own.f su so = some (su, so) := by
  unfold columbariumref14_Own.f
  rw [if_pos (by simp; omega), if_pos (by simp; omega)]
  rfl
theorem blank_r : strOfNums (List.replicate 64 0) = blank := by rfl
theorem rnew_l0 (n : Nat) (hn : n ≤ 400) : ∀ (d i k : Nat), i + d = n → d < k → columbariumref14_New.l0 k n i (List.replicate i blank) = some (List.replicate n blank, [], 0)
  | 0, i, k, h, hk => by
    obtain ⟨k, rfl⟩ : ∃ m, k = m + 1 := ⟨k - 1, by omega⟩
    obtain rfl : i = n := by omega
    simp only [columbariumref14_New.l0]
    rw [if_neg (by omega)]
  | d + 1, i, k, h, hk => by
    obtain ⟨k, rfl⟩ : ∃ m, k = m + 1 := ⟨k - 1, by omega⟩
    simp only [columbariumref14_New.l0]
    rw [if_pos (by omega), if_pos (by omega), if_pos (by simp; omega), wr_r i (by omega), blank_r, ← List.replicate_succ']
    exact rnew_l0 n hn d (i + 1) k (by omega) (by omega)
theorem rnew_eq (n : Int) {k : Nat} (hk : 500 < k) : columbariumref14_New.f k n = some (newB n) := by
  obtain ⟨k, rfl⟩ : ∃ m, k = m + 1 := ⟨k - 1, by omega⟩
  unfold columbariumref14_New.f newB
  by_cases h1 : n < 1
  · rw [if_pos h1, if_neg (by omega)]
    simp [columbariumref14_New.j0]
  · rw [if_neg h1]
    by_cases h2 : n > 400
    · rw [if_neg (by omega), show decide (n > 400) = true by simp; omega]
      simp [columbariumref14_New.j0]
    · rw [if_pos (by omega), show decide (n > 400) = false by simp; omega]
      simp only [columbariumref14_New.j0, Bool.false_eq_true, if_false]
      obtain ⟨m, rfl⟩ : ∃ m : Nat, n = m := ⟨n.toNat, by omega⟩
      exact rnew_l0 m (by omega) m 0 k (by omega) (by omega)
theorem rwhole_eq (n : Nat) (hn : n ≤ 100000) : ∀ (d i k : Nat), i + d = n → d < k → columbariumref14_whole.l0 k n (List.replicate i 64) i = some (List.replicate n 64)
  | 0, i, k, h, hk => by
    obtain ⟨k, rfl⟩ : ∃ m, k = m + 1 := ⟨k - 1, by omega⟩
    obtain rfl : i = n := by omega
    simp only [columbariumref14_whole.l0]
    rw [if_neg (by omega)]
  | d + 1, i, k, h, hk => by
    obtain ⟨k, rfl⟩ : ∃ m, k = m + 1 := ⟨k - 1, by omega⟩
    simp only [columbariumref14_whole.l0]
    rw [if_pos (by omega), if_pos (by simp; omega), wr_r i (by omega), ← List.replicate_succ']
    exact rwhole_eq n hn d (i + 1) k (by omega) (by omega)
theorem cutOf_mx (cuts : List Int) (i : Nat) (h : (i : Int) < cuts.length) : mx 0 (mn (rd cuts i) 64) = cutOf cuts i := by
  rw [show cutOf cuts i = min (max (rd cuts i) 0) 64 from by unfold cutOf; rw [if_neg (by omega)]]
  unfold mx mn
  split <;> split <;> omega
theorem cutOf_none (cuts : List Int) (i : Nat) (h : ¬ (i : Int) < cuts.length) : cutOf cuts i = 0 := by
  unfold cutOf
  rw [if_pos (by omega)]
theorem rfall_l0 {su0 : List ByteArray} {so : List S24} {cuts : List Int} (hz : so.length ≤ 100000) : ∀ (d i k : Nat) (su : List ByteArray), i + d = so.length → d < k → Fits su so → columbariumref14_fallen.l0 k cuts i su0 so su = some (fall su (so.drop i) (cutOf cuts) i, [])
  | 0, i, k, su, h, hk, hf => by
    obtain ⟨k, rfl⟩ : ∃ m, k = m + 1 := ⟨k - 1, by omega⟩
    simp only [columbariumref14_fallen.l0]
    rw [if_neg (by omega), List.drop_eq_nil_of_le (by omega)]
    rfl
  | d + 1, i, k, su, h, hk, hf => by
    obtain ⟨k, rfl⟩ : ∃ m, k = m + 1 := ⟨k - 1, by omega⟩
    have hi : i < so.length := by omega
    obtain ⟨m0, m1⟩ := hf.blk _ (List.getElem_mem hi)
    have hm := hf.byt _ (List.getElem_mem hi)
    have hs := rdS_size hf.sur m0 m1
    have hc := cutOf_range cuts i
    have hF : Fits (put1 su so[i] (cutOf cuts i)) so := ⟨fun x hx => by rw [put1_len]; exact hf.blk x hx, hf.byt, put1_sur hf.sur ⟨m0, m1⟩ hm hc.1 hc.2⟩
    have ih := rfall_l0 (su0 := su0) (cuts := cuts) hz d (i + 1) k _ (by omega) (by omega) hF
    simp only [columbariumref14_fallen.l0]
    rw [if_pos (by omega), if_pos (by omega), rd24_r hi, wr_r i (by omega), List.drop_eq_getElem_cons hi]
    have e1 : (so[i].f2.extract 0 (cutOf cuts i).toNat).size + ((rdOf ByteArray.empty su so[i].f1).extract (cutOf cuts i).toNat (rdOf ByteArray.empty su so[i].f1).size).size ≤ 9223372036854775807 := by
      rw [ByteArray.size_extract, ByteArray.size_extract]
      omega
    by_cases h1 : (i : Int) < cuts.length
    · rw [if_pos h1, cutOf_mx cuts i h1, if_pos (by omega), if_pos (by omega), if_pos m0, if_pos m1, if_pos (by omega), if_pos e1]
      exact ih
    · have h2 := cutOf_none cuts i h1
      rw [h2] at e1 ih
      rw [show (0 : Int).toNat = 0 from rfl] at e1
      rw [if_neg h1, if_pos (by omega), if_pos (by omega), if_pos m0, if_pos m1, if_pos (by omega), if_pos e1]
      show _ = some (fall (put1 su so[i] (cutOf cuts i)) (so.drop (i + 1)) (cutOf cuts) (i + 1), [])
      rw [h2]
      exact ih
theorem rfall_eq {su : List ByteArray} {so : List S24} (hf : Fits su so) (cuts : List Int) (h1 : su.length < 1000000) (hz : so.length ≤ 100000) {k : Nat} (hk : so.length < k) : columbariumref14_fallen.f k su so cuts = some (fall su so (cutOf cuts) 0, []) := by
  unfold columbariumref14_fallen.f
  rw [if_pos (by simp; omega), List.nil_append]
  have := rfall_l0 (su0 := su) (cuts := cuts) hz so.length 0 k su (by omega) hk hf
  rw [List.drop_zero] at this
  exact this
theorem rcrash_eq {su : List ByteArray} {so : List S24} (cuts : List Int) (h1 : su.length < 1000000) (hz : so.length ≤ 100000) {k : Nat} (hk : 4000 < k) : columbariumref14_Crash.f k su so cuts = some (crashB su so cuts) := by
  unfold columbariumref14_Crash.f crashB
  rw [rright_eq su so hk, Option.bind_some]
  by_cases hr : rightB su so = true
  · have R := right_iff.1 hr
    have := R.few
    rw [if_pos hr, if_pos hr, rfall_eq R.fits cuts h1 hz (by omega), Option.bind_some]
  · rw [if_neg hr, if_neg hr, rown_eq h1 (by omega), Option.bind_some]
theorem fall_64 (so : List S24) (su : List ByteArray) (n : Nat) (h : so.length ≤ n) : fall su so (cutOf (List.replicate n 64)) 0 = fall su so (fun _ => 64) 0 := by
  have : ∀ (so : List S24) (su : List ByteArray) (i : Nat), i + so.length ≤ n → fall su so (cutOf (List.replicate n 64)) i = fall su so (fun _ => 64) i := by
    intro so
    induction so with
    | nil => intro su i h; rfl
    | cons m so ih =>
      intro su i h
      simp only [List.length_cons] at h
      simp only [fall]
      have e : cutOf (List.replicate n 64) i = 64 := by
        unfold cutOf rd
        rw [if_neg (by simp; omega)]
        simp [List.getD_eq_getElem?_getD, List.getElem?_replicate, show i < n by omega]
        omega
      rw [e]
      exact ih _ (i + 1) (by omega)
  exact this so su 0 (by omega)
theorem rdo_l0 {l : List S24} (hl : l.length ≤ 100000) {su : List ByteArray} {so : List S24} (h1 : su.length < 1000000) (h2 : so.length < 1000000) : ∀ (d i k : Nat), i + d = l.length →
    columbariumref14_Do.l0 (k + d + 1) l i su so = if (l.drop i).any (oddB su.length) = true then some (su, so, 1) else columbariumref14_Do.l1 k l 0 su so su so
  | 0, i, k, h => by
    simp only [Nat.add_zero, columbariumref14_Do.l0]
    rw [if_neg (by omega), List.drop_eq_nil_of_le (by omega), rown_eq h1 h2, Option.bind_some]
    rfl
  | d + 1, i, k, h => by
    have hi : i < l.length := by omega
    obtain ⟨q, hq⟩ : ∃ q, q = k + d + 1 := ⟨_, rfl⟩
    rw [show k + (d + 1) + 1 = q + 1 by omega]
    simp only [columbariumref14_Do.l0]
    rw [if_pos (by omega), if_pos (by omega), rd24_r hi, may_eq, Option.bind_some, wr_r i (by omega), hq, rdo_l0 hl h1 h2 d (i + 1) k (by omega), List.drop_eq_getElem_cons hi, List.any_cons, rown_eq h1 h2, Option.bind_some]
    cases oddB su.length l[i] <;> simp
theorem rdo_l1 {l : List S24} (hl : l.length ≤ 1000) {su0 : List ByteArray} {so0 : List S24} (h1 : su0.length < 1000000) (h2 : so0.length < 1000000) (hok : ∀ m ∈ l, oddB su0.length m = false) : ∀ (d i k : Nat) (su : List ByteArray) (so : List S24), i + d = l.length → d + 4000 < k → DoInv su0.length su so →
    columbariumref14_Do.l1 k l i su0 so0 su so = some (doL su0 so0 su so (l.drop i))
  | 0, i, k, su, so, h, hk, hv => by
    obtain ⟨k, rfl⟩ : ∃ m, k = m + 1 := ⟨k - 1, by omega⟩
    simp only [columbariumref14_Do.l1]
    rw [if_neg (by omega), List.drop_eq_nil_of_le (by omega)]
    rfl
  | d + 1, i, k, su, so, h, hk, hv => by
    obtain ⟨k, rfl⟩ : ∃ m, k = m + 1 := ⟨k - 1, by omega⟩
    have hi : i < l.length := by omega
    have hm := hok _ (List.getElem_mem hi)
    have hlen := hv.len
    have hfew := hv.few
    simp only [columbariumref14_Do.l1]
    rw [if_pos (by omega), if_pos (by omega), rd24_r hi, wr_r i (by omega), List.drop_eq_getElem_cons hi]
    simp only [doL]
    cases hs : l[i].f0
    · simp only [Bool.false_eq_true, if_false]
      by_cases hf : (so.length : Int) = 3000
      · rw [if_pos (by omega), if_pos hf, rown_eq h1 h2, Option.bind_some]
      · rw [if_neg (by omega), if_neg hf, if_pos (by omega)]
        have heta : (⟨false, l[i].f1, l[i].f2⟩ : S24) = l[i] := by rw [← hs]
        rw [heta]
        exact rdo_l1 hl h1 h2 hok d (i + 1) k su _ (by omega) (by omega) (inv_app hv hm hs (by omega))
    · simp only [if_true]
      have hw : columbariumref14_whole.f k (so.length : Int) = some (List.replicate so.length 64) := rwhole_eq so.length (by omega) so.length 0 k (by omega) (by omega)
      rw [hw, Option.bind_some, rfall_eq hv.fits _ (by omega) (by omega) (by omega), Option.bind_some, fall_64 so su so.length (by omega)]
      refine rdo_l1 hl h1 h2 hok d (i + 1) k _ _ (by omega) (by omega) ⟨by rw [fall_len]; exact hlen, by simp, ⟨(fun m hm => by cases hm), (fun m hm => by cases hm), fall_sur so su _ 0 hv.fits (fun _ => by omega)⟩⟩
theorem rdo_eq {su : List ByteArray} {so : List S24} {l : List S24} (hl : l.length ≤ 1000) (h1 : su.length < 1000000) (h2 : so.length < 1000000) {k : Nat} (hk : 10000 < k) : columbariumref14_Do.f k su so l = some (doB su so l) := by
  unfold columbariumref14_Do.f doB
  rw [rright_eq su so (by omega), Option.bind_some]
  by_cases hr : rightB su so = true
  · have R := right_iff.1 hr
    rw [if_pos hr]
    obtain ⟨q, rfl⟩ : ∃ q, k = q + l.length + 1 := ⟨k - l.length - 1, by omega⟩
    have := rdo_l0 (l := l) (by omega) h1 h2 l.length 0 q (by omega)
    rw [List.drop_zero] at this
    refine Eq.trans this ?_
    cases ha : l.any (oddB su.length)
    · rw [if_neg (by simp), if_pos ⟨hr, rfl⟩]
      have := rdo_l1 (l := l) hl (su0 := su) (so0 := so) h1 h2 (fun m hm => by rw [List.any_eq_false] at ha; simpa using ha m hm) l.length 0 q su so (by omega) (by omega) ⟨rfl, R.few, R.fits⟩
      rw [List.drop_zero] at this
      exact this
    · rw [if_pos rfl, if_neg (by rintro ⟨_, h⟩; cases h)]
  · rw [if_neg hr, if_neg (by rintro ⟨h, _⟩; exact hr h), rown_eq h1 h2, Option.bind_some]
end Go.Proofs.Ytcfinlmocgbnbaa.Pr
end
section
namespace Go.Proofs.Ytcfinlmocgbnbaa.Pr
open Go.RowKit Go.Shelf Go.Proofs.Ytcfinlmocgbnbaa.XB Go.Proofs.YtcfinlmocgbnbaaW.PrintWords Go.Proofs.YtcfinlmocgbnbaaW.PrintMore
set_option linter.unusedVariables false
set_option linter.unusedSimpArgs false
theorem bt_in {a : ByteArray} {p : Nat} (h : p < a.size) : bt a (p : Int) = ((a[p]'h).toNat : Int) := by unfold bt; rw [dif_pos (by simpa using h)]; rfl
theorem bt_left {a b : ByteArray} {p : Nat} (h : p < a.size) : bt (a ++ b) (p : Int) = bt a (p : Int) := by
  rw [bt_in h, bt_in (by rw [ByteArray.size_append]; omega), ByteArray.getElem_append_left h]
theorem bt_right {a b : ByteArray} {p : Nat} (h : a.size ≤ p) (h2 : p < a.size + b.size) : bt (a ++ b) (p : Int) = bt b ((p - a.size : Nat) : Int) := by
  rw [bt_in (by rw [ByteArray.size_append]; omega), bt_in (by omega), ByteArray.getElem_append_right h]
theorem bt_extract {a : ByteArray} {i j p : Nat} (h : p < min j a.size - i) : bt (a.extract i j) (p : Int) = bt a ((i + p : Nat) : Int) := by
  rw [bt_in (by rw [ByteArray.size_extract]; omega), bt_in (by omega), ByteArray.getElem_extract]
theorem bt_mix {x y : ByteArray} {z i : Nat} (hx : z ≤ x.size) (hy : y.size = 64) (hz : z ≤ 64) (hi : i < 64) : bt (x.extract 0 z ++ y.extract z 64) (i : Int) = if i < z then bt x (i : Int) else bt y (i : Int) := by
  have e1 : (x.extract 0 z).size = z := by rw [ByteArray.size_extract]; omega
  by_cases h : i < z
  · rw [if_pos h, bt_left (by omega), bt_extract (by omega)]
    simp
  · rw [if_neg h, bt_right (by omega) (by rw [e1, ByteArray.size_extract]; omega), e1, bt_extract (by omega)]
    congr 1
    omega
theorem mix_size {x y : ByteArray} {z : Nat} (hx : z ≤ x.size) (hy : y.size = 64) (hz : z ≤ 64) : (x.extract 0 z ++ y.extract z 64).size = 64 := by
  rw [ByteArray.size_append, ByteArray.size_extract, ByteArray.size_extract]; omega
theorem bt_blank {i : Nat} (hi : i < 64) : bt blank (i : Int) = 0 := by
  rw [bt_in (by rw [blank_size]; exact hi)]
  have : blank[i]'(by rw [blank_size]; exact hi) = 0 := by
    show (List.replicate 64 (0 : UInt8)).toArray[i]'(by simpa using hi) = 0
    rw [List.getElem_toArray, List.getElem_replicate]
  rw [this]
  rfl
theorem rd_setV {la : List ByteArray} {x : ByteArray} {i b : Nat} (hi : i < la.length) : rdOf ByteArray.empty (la.set i x) (b : Int) = if i = b then x else rdOf ByteArray.empty la b := by
  unfold rdOf
  rw [Int.toNat_natCast, List.getD_eq_getElem?_getD, List.getD_eq_getElem?_getD, List.getElem?_set]
  by_cases h : i = b
  · subst h
    simp [hi]
  · simp [h]
theorem put1_blk {su : List ByteArray} {m : S24} {c : Int} (h0 : 0 ≤ m.f1 ∧ m.f1 < su.length) (b : Nat) : rdOf ByteArray.empty (put1 su m c) (b : Int) = if m.f1 = b then m.f2.extract 0 c.toNat ++ (rdOf ByteArray.empty su b).extract c.toNat (rdOf ByteArray.empty su b).size else rdOf ByteArray.empty su b := by
  obtain ⟨x, hx⟩ : ∃ x : Nat, m.f1 = x := ⟨m.f1.toNat, by omega⟩
  unfold put1
  rw [hx, Int.toNat_natCast, rd_setV (by omega)]
  by_cases h : x = b
  · rw [if_pos h, if_pos (by omega), h]
  · rw [if_neg h, if_neg (by omega)]
theorem fits_put1 {su : List ByteArray} {m : S24} {so : List S24} {c : Int} (h : Fits su (m :: so)) (h0 : 0 ≤ c) (h1 : c ≤ 64) : Fits (put1 su m c) so := by
  obtain ⟨m0, m1⟩ := h.blk m (by simp)
  exact ⟨fun x hx => by rw [put1_len]; exact h.blk x (by simp [hx]), fun x hx => h.byt x (by simp [hx]), put1_sur h.sur ⟨m0, m1⟩ (h.byt m (by simp)) h0 h1⟩
theorem fall_byteV : ∀ (so : List S24) (su : List ByteArray) (cut : Nat → Int) (i : Nat), Fits su so → (∀ j, 0 ≤ cut j ∧ cut j ≤ 64) → ∀ (b j : Nat), b < su.length → j < 64 →
    bt (blkN (fall su so cut i) b) (j : Int) = bt (blkN su b) (j : Int) ∨ ∃ m ∈ so, m.f1 = b ∧ bt (blkN (fall su so cut i) b) (j : Int) = bt m.f2 (j : Int)
  | [], _, _, _, _, _, _, _, _, _ => .inl rfl
  | m :: so, su, cut, i, h, hc, b, j, hb, hj => by
    obtain ⟨m0, m1⟩ := h.blk m (by simp)
    have hm := h.byt m (by simp)
    show bt (blkN (fall (put1 su m (cut i)) so cut (i + 1)) b) _ = _ ∨ ∃ x ∈ m :: so, x.f1 = b ∧ bt (blkN (fall (put1 su m (cut i)) so cut (i + 1)) b) _ = bt x.f2 _
    rcases fall_byteV so _ cut (i + 1) (fits_put1 h (hc i).1 (hc i).2) hc b j (by rw [put1_len]; exact hb) hj with e | ⟨x, hx, h1, h2⟩
    · have hp := put1_blk (su := su) (c := cut i) ⟨m0, m1⟩ b
      have hs := rdS_size h.sur (b := (b : Int)) (by omega) (by omega)
      unfold blkN at e ⊢
      by_cases hxb : m.f1 = b
      · rw [if_pos hxb, hs] at hp
        have hc0 := (hc i).2
        rw [hp, bt_mix (by omega) hs (by omega) hj] at e
        by_cases hlt : j < (cut i).toNat
        · rw [if_pos hlt] at e
          exact .inr ⟨m, by simp, hxb, e⟩
        · rw [if_neg hlt] at e
          exact .inl e
      · rw [if_neg hxb] at hp
        rw [hp] at e
        exact .inl e
    · exact .inr ⟨x, by simp [hx], h1, h2⟩
theorem fall_allV : ∀ (so : List S24) (su : List ByteArray) (i : Nat), Fits su so → ∀ (b : Nat), b < su.length →
    (blkN (fall su so (fun _ => 64) i) b = blkN su b ∧ ∀ m ∈ so, m.f1 ≠ b) ∨ ∃ m ∈ so, m.f1 = b ∧ blkN (fall su so (fun _ => 64) i) b = m.f2
  | [], _, _, _, _, _ => .inl ⟨rfl, fun m hm => by cases hm⟩
  | m :: so, su, i, h, b, hb => by
    obtain ⟨m0, m1⟩ := h.blk m (by simp)
    have hm := h.byt m (by simp)
    show (blkN (fall (put1 su m 64) so (fun _ => 64) (i + 1)) b = _ ∧ _) ∨ ∃ x ∈ m :: so, x.f1 = b ∧ blkN (fall (put1 su m 64) so (fun _ => 64) (i + 1)) b = x.f2
    have hp := put1_blk (su := su) (c := 64) ⟨m0, m1⟩ b
    have hs := rdS_size h.sur (b := (b : Int)) (by omega) (by omega)
    have hs2 : (put1 su m 64).length = su.length := put1_len _ _ _
    rcases fall_allV so (put1 su m 64) (i + 1) (fits_put1 h (by omega) (by omega)) b (by omega) with ⟨e, hno⟩ | ⟨x, hx, h1, h2⟩
    · unfold blkN at e ⊢
      by_cases hxb : m.f1 = b
      · rw [if_pos hxb, hs] at hp
        refine .inr ⟨m, by simp, hxb, e.trans (hp.trans ?_)⟩
        refine bt_ext (n := 64) (mix_size (by rw [hm]; decide) hs (by decide)) hm (fun i hi => ?_)
        rw [bt_mix (by rw [hm]; decide) hs (by decide) hi, if_pos (by show i < 64; exact hi)]
      · rw [if_neg hxb] at hp
        refine .inl ⟨e.trans hp, fun x hx => ?_⟩
        rcases List.mem_cons.1 hx with rfl | hx
        · exact hxb
        · exact hno x hx
    · exact .inr ⟨x, by simp [hx], h1, h2⟩
theorem bt_join {su : List ByteArray} (hz : ∀ s ∈ su, s.size = 64) (at_ : Nat) : ∀ (k p : Nat), at_ + k ≤ su.length → p < 64 * k → bt (joinB su at_ k) (p : Int) = bt (blkN su (at_ + p / 64)) ((p % 64 : Nat) : Int)
  | 0, p, _, hp => by omega
  | k + 1, p, hk, hp => by
    have hsz := joinB_size hz at_ k (by omega)
    have hb := rdS_size hz (b := ((at_ + k : Nat) : Int)) (by omega) (by omega)
    show bt (joinB su at_ k ++ rdOf ByteArray.empty su ((at_ + k : Nat) : Int)) (p : Int) = _
    by_cases h : p < 64 * k
    · rw [bt_left (by omega), bt_join hz at_ k p (by omega) h]
    · rw [bt_right (by omega) (by omega), hsz, show p / 64 = k by omega, show p - 64 * k = p % 64 by omega]
      rfl
def hbt (su : List ByteArray) (h p : Nat) : Int := bt (blkN su (2 + h * wdN su + p / 64)) ((p % 64 : Nat) : Int)
structure GV (n : Nat) (su : List ByteArray) (q h : Nat) (T : ByteArray) : Prop where
  D : Dsk n su []
  n4 : 4 ≤ n
  n400 : n ≤ 400
  h1 : h ≤ 1
  q1 : q ≤ 1000000
  l : T.size ≤ 64 * wdN su
  this : blkN su (q % 2) = headP q h T.size
  other : ∃ q' h' l', HOk (wdN su) q' h' l' ∧ q' % 2 = 1 - q % 2 ∧ Form (blkN su (1 - q % 2)) (headP q' h' l') ∧ (q' < q ∨ blkN su (1 - q % 2) ≠ headP q' h' l')
  txt : ∀ p, p < T.size → hbt su h p = bt T p
theorem bestI_two (m : Nat → HdI) : bestI m 2 = better (better ⟨false, -1, 0, 0⟩ (m 0)) (m 1) := rfl
theorem better_new {b x : HdI} (h1 : x.is = true) (h2 : b.q < x.q) : better b x = x := if_pos ⟨h1, h2⟩
theorem better_old {b x : HdI} (h : x.is = true → x.q ≤ b.q) : better b x = b := if_neg (fun ⟨h1, h2⟩ => by have := h h1; omega)
section
variable {n : Nat} {su : List ByteArray} {q h : Nat} {T : ByteArray}
theorem half_le {wd h : Nat} (hh : h ≤ 1) : h * wd ≤ wd := Nat.le_trans (Nat.mul_le_mul_right _ hh) (by omega)
theorem GV.wd (V : GV n su q h T) : 2 + 2 * wdN su ≤ su.length ∧ wdN su ≤ 200 := by
  have h1 := V.n4
  have h2 := V.n400
  have h3 := V.D.len
  unfold wdN
  omega
theorem GV.ok (V : GV n su q h T) : HOk (wdN su) q h T.size := ⟨by have := V.q1; omega, V.h1, V.l⟩
theorem GV.reads (V : GV n su q h T) : hdI (wdN su) (blkN su (q % 2)) = ⟨true, (q : Int), (h : Int), (T.size : Int)⟩ := by
  rw [V.this]; exact head_reads (by have := V.wd.2; omega) V.ok
theorem GV.less (V : GV n su q h T) (hi : (hdI (wdN su) (blkN su (1 - q % 2))).is = true) : (hdI (wdN su) (blkN su (1 - q % 2))).q < q ∧ nB (blkN su (1 - q % 2)) 0 8 % 2 = 1 - q % 2 := by
  obtain ⟨q', h', l', k, hp, F, hlt⟩ := V.other
  have hw : wdN su ≤ 1000 := by have := V.wd.2; omega
  have e := form_reads hw F k hi
  rcases hlt with hlt | hlt
  · have hr := head_reads hw k
    rw [← e] at hr
    have hq : nB (blkN su (1 - q % 2)) 0 8 = q' := by
      have : ((nB (blkN su (1 - q % 2)) 0 8 : Nat) : Int) = (q' : Int) := congrArg HdI.q hr
      omega
    rw [hr]
    exact ⟨by show (q' : Int) < q; omega, by rw [hq]; exact hp⟩
  · exact absurd e hlt
theorem GV.small (V : GV n su q h T) : smallB (blkN su (1 - q % 2)) = true := by
  obtain ⟨q', h', l', k, hp, F, hlt⟩ := V.other
  have := V.D.len
  have := V.n4
  exact form_small (blk_size V.D.fits.sur (by omega)) F k
theorem GV.right (V : GV n su q h T) : rightB su [] = true := V.D.right (by have := V.n4; omega) V.n400
theorem GV.gs (V : GV n su q h T) : GS su q h T.size := by
  have h1 := V.D.len
  have h2 := V.n4
  have h3 := V.n400
  exact ⟨V.right, by omega, by omega, V.D.fits.sur, V.ok, V.this, V.small, fun hi => (V.less hi).1⟩
theorem GV.text (V : GV n su q h T) : textN su h T.size = T := by
  have ht := text_size V.gs
  refine bt_ext (n := T.size) ht rfl (fun p hp => ?_)
  rw [← V.txt p hp]
  have hl := V.l
  have hw := V.wd.1
  have hh := half_le (wd := wdN su) V.h1
  have hj := joinB_size V.D.fits.sur (2 + h * wdN su) (wdN su) (by omega)
  unfold textN
  rw [bt_extract (by omega), Nat.zero_add, bt_join V.D.fits.sur _ _ _ (by omega) (by omega)]
  rfl
theorem GV.opens (V : GV n su q h T) : vault_Open.f su [] = some (su, [], (q : Int), (h : Int), (T.size : Int), T, 0) := by
  have h1 := V.D.len
  have h2 := V.n4
  have hr := V.reads
  have hq : nB (blkN su (q % 2)) 0 8 = q := by
    have : ((nB (blkN su (q % 2)) 0 8 : Nat) : Int) = (q : Int) := congrArg HdI.q hr
    omega
  have hq1 := V.q1
  have hsm := V.small
  unfold smallB at hsm
  simp only [decide_eq_true_eq] at hsm
  have two : ∀ i : Nat, i < 2 → i = q % 2 ∨ i = 1 - q % 2 := fun i hi => by omega
  have O : OS su := ⟨V.right, by omega, fun i hi => by
      rcases two i hi with e | e
      · rw [e, hq]; omega
      · rw [e]; exact hsm, fun i hi his => by
      rcases two i hi with e | e
      · rw [e, hq]
      · rw [e] at his ⊢; exact (V.less his).2⟩
  have hb : bestN su = ⟨true, (q : Int), (h : Int), (T.size : Int)⟩ := by
    have hl := V.less
    have hu : bestN su = better (better ⟨false, -1, 0, 0⟩ (hdI (wdN su) (blkN su 0))) (hdI (wdN su) (blkN su 1)) := bestI_two _
    rw [hu]
    generalize hg0 : hdI (wdN su) (blkN su 0) = g0 at *
    generalize hg1 : hdI (wdN su) (blkN su 1) = g1 at *
    rcases Nat.mod_two_eq_zero_or_one q with e | e
    · rw [e] at hr hl
      simp only [Nat.sub_zero] at hl
      rw [hg0] at hr
      rw [hg1] at hl
      rw [hr, better_new (b := ⟨false, -1, 0, 0⟩) (x := ⟨true, (q : Int), (h : Int), (T.size : Int)⟩) rfl (by show (-1 : Int) < q; omega), better_old (fun hi => by have := (hl hi).1; show g1.q ≤ (q : Int); omega)]
    · rw [e] at hr hl
      simp only [Nat.sub_self] at hl
      rw [hg1] at hr
      rw [hg0] at hl
      rw [hr, better_new rfl]
      show (better _ g0).q < (q : Int)
      cases hi : g0.is
      · rw [better_old (fun h => by rw [hi] at h; cases h)]
        show (-1 : Int) < q
        omega
      · by_cases hgt : (-1 : Int) < g0.q
        · rw [better_new hi hgt]
          exact (hl hi).1
        · rw [better_old (fun _ => by show g0.q ≤ -1; omega)]
          show (-1 : Int) < q
          omega
  unfold vault_Open.f
  rw [if_pos (open_iff.2 ⟨rfl, O⟩), hb, if_neg (by show ¬ (q : Int) < 0; omega)]
  simp only [Int.toNat_natCast]
  rw [V.text]
theorem GV.rights (V : GV n su q h T) : vault_Right.f su [] (q : Int) (h : Int) (T.size : Int) = some true := by
  unfold vault_Right.f
  rw [if_pos (good_iff.2 ⟨rfl, V.gs⟩)]
end
end Go.Proofs.Ytcfinlmocgbnbaa.Pr
end
section
namespace Go.Proofs.Ytcfinlmocgbnbaa.Pr
open Go.RowKit Go.Shelf Go.Proofs.Ytcfinlmocgbnbaa.XB Go.Proofs.YtcfinlmocgbnbaaW.PrintWords Go.Proofs.YtcfinlmocgbnbaaW.PrintMore
set_option linter.unusedVariables false
set_option linter.unusedSimpArgs false
theorem bt_leftK {all : ByteArray} {j i : Nat} (h : 64 * j + i < all.size) : bt (leftK all j) (i : Int) = bt all ((64 * j + i : Nat) : Int) := by unfold leftK; rw [bt_extract (by omega)]
theorem mvU_mem {su : List ByteArray} {all : ByteArray} {same : Int} {at_ : Nat} : ∀ (k : Nat) (m : S24), m ∈ mvU su all same at_ k → ∃ j, j < k ∧ m ∈ mvK su all same at_ j
  | 0, m, h => by cases h
  | k + 1, m, h => by
    rcases List.mem_append.1 h with h | h
    · obtain ⟨j, hj, hm⟩ := mvU_mem k m h
      exact ⟨j, by omega, hm⟩
    · exact ⟨k, by omega, h⟩
theorem mvU_sub {su : List ByteArray} {all : ByteArray} {same : Int} {at_ : Nat} : ∀ (k j : Nat), j < k → ∀ m ∈ mvK su all same at_ j, m ∈ mvU su all same at_ k
  | 0, j, h, _, _ => by omega
  | k + 1, j, h, m, hm => by
    by_cases e : j = k
    · subst e; exact List.mem_append_right _ hm
    · exact List.mem_append_left _ (mvU_sub k j (by omega) m hm)
theorem mvK_is {su : List ByteArray} {all : ByteArray} {same : Int} {at_ j : Nat} {m : S24} (hz : (blkN su (at_ + j)).size = 64) (h : m ∈ mvK su all same at_ j) :
    m.f0 = false ∧ m.f1 = ((at_ + j : Nat) : Int) ∧ m.f2.size = 64 ∧ ∀ i : Nat, i < 64 → bt m.f2 (i : Int) = if 64 * j + i < all.size then bt all ((64 * j + i : Nat) : Int) else bt (blkN su (at_ + j)) (i : Int) := by
  unfold mvK at h
  split at h
  · rename_i hc
    obtain rfl : m = _ := List.mem_singleton.1 h
    have hs : sizeK all.size j ≤ 64 := by unfold sizeK; omega
    have hl : sizeK all.size j ≤ (leftK all j).size := by rw [left_size]; unfold sizeK; omega
    refine ⟨rfl, rfl, mix_size hl hz hs, fun i hi => ?_⟩
    show bt ((leftK all j).extract 0 (sizeK all.size j) ++ (blkN su (at_ + j)).extract (sizeK all.size j) 64) (i : Int) = _
    rw [bt_mix hl hz hs hi]
    have hk : i < sizeK all.size j ↔ 64 * j + i < all.size := by unfold sizeK; omega
    by_cases h1 : i < sizeK all.size j
    · rw [if_pos h1, if_pos (hk.1 h1), bt_leftK (hk.1 h1)]
    · rw [if_neg h1, if_neg (fun h => h1 (hk.2 h))]
  · cases h
theorem mvK_nil {su : List ByteArray} {all : ByteArray} {same : Int} {at_ j : Nat} (h : mvK su all same at_ j = []) {i : Nat} (hi : i < 64) (hp : 64 * j + i < all.size) : (64 * (j : Int) + i) < same := by
  unfold mvK at h
  split at h
  · cases h
  · rename_i hc
    unfold sizeK sameK at hc
    omega
section
variable {n : Nat} {su : List ByteArray} {q h : Nat} {T s : ByteArray} {ins : Bool}
def nextT (T s : ByteArray) (ins : Bool) : ByteArray := if ins = true then s else T ++ s
theorem GV.all (V : GV n su q h T) (s : ByteArray) (ins : Bool) : allN su h T.size s ins = nextT T s ins := by unfold allN nextT; rw [V.text]
def firstN (su : List ByteArray) (q h : Nat) (T s : ByteArray) (ins : Bool) : List S24 :=
  mvU su (nextT T s ins) (((nextT T s ins).size : Int) - (s.size : Int)) (2 + halfN h ins * wdN su) (wdN su) ++ [⟨false, (((q + 1) % 2 : Nat) : Int), blank⟩]
def headM (su : List ByteArray) (q h : Nat) (T s : ByteArray) (ins : Bool) : S24 := ⟨false, (((q + 1) % 2 : Nat) : Int), headP (q + 1) (halfN h ins) (nextT T s ins).size⟩
def syncM : S24 := ⟨true, 0, ⟨#[]⟩⟩
theorem GV.moves (V : GV n su q h T) (s : ByteArray) (ins : Bool) : movesN su q h T.size s ins = firstN su q h T s ins ++ [syncM, headM su q h T s ins, syncM] := by
  unfold movesN firstN headM syncM
  rw [V.all]
  simp
theorem half_one (hh : h ≤ 1) (ins : Bool) : halfN h ins ≤ 1 := by unfold halfN; split <;> omega
theorem GV.first_is (V : GV n su q h T) {m : S24} (hm : m ∈ firstN su q h T s ins) :
    m.f0 = false ∧ m.f2.size = 64 ∧ ((m.f1 = ((1 - q % 2 : Nat) : Int) ∧ m.f2 = blank) ∨ ∃ j, j < wdN su ∧ m.f1 = ((2 + halfN h ins * wdN su + j : Nat) : Int) ∧ ∀ i : Nat, i < 64 → bt m.f2 (i : Int) = if 64 * j + i < (nextT T s ins).size then bt (nextT T s ins) ((64 * j + i : Nat) : Int) else bt (blkN su (2 + halfN h ins * wdN su + j)) (i : Int)) := by
  have hw := V.wd.1
  have hh := half_le (wd := wdN su) (half_one V.h1 ins)
  rcases List.mem_append.1 hm with hm | hm
  · obtain ⟨j, hj, hk⟩ := mvU_mem _ m hm
    obtain ⟨e0, e1, e2, e3⟩ := mvK_is (blk_size V.D.fits.sur (by omega)) hk
    exact ⟨e0, e2, .inr ⟨j, hj, e1, e3⟩⟩
  · obtain rfl : m = _ := List.mem_singleton.1 hm
    exact ⟨rfl, blank_size, .inl ⟨by show (((q + 1) % 2 : Nat) : Int) = _; omega, rfl⟩⟩
theorem GV.first_good (V : GV n su q h T) : ∀ m ∈ firstN su q h T s ins, Good n m := fun m hm => by
  obtain ⟨e0, e2, e⟩ := V.first_is hm
  have hw := V.wd.1
  have hl := V.D.len
  have hh := half_le (wd := wdN su) (half_one V.h1 ins)
  refine ⟨fun h => (by rw [e0] at h; cases h), fun _ => ?_⟩
  rcases e with ⟨e1, _⟩ | ⟨j, hj, e1, _⟩ <;> omega
theorem GV.first_len (V : GV n su q h T) : (firstN su q h T s ins).length ≤ wdN su + 1 := by
  unfold firstN
  have := mvU_len su (nextT T s ins) (((nextT T s ins).size : Int) - (s.size : Int)) (2 + halfN h ins * wdN su) (wdN su)
  simp only [List.length_append, List.length_singleton]
  omega
theorem dsk_apps {so : List S24} (D : Dsk n su []) (hg : ∀ m ∈ so, Good n m) (h0 : ∀ m ∈ so, m.f0 = false) (hl : so.length ≤ 3000) : Dsk n su so :=
  ⟨⟨D.len, hl, ⟨fun m hm => by have := (hg m hm).put (h0 m hm); have := D.len; omega, fun m hm => ((hg m hm).put (h0 m hm)).2.2, D.fits.sur⟩⟩, h0⟩
theorem GV.old (V : GV n su q h T) {so : List S24} (hso : ∀ m ∈ so, m ∈ firstN su q h T s ins) (hlen : so.length ≤ 3000) {cut : Nat → Int} (hc : ∀ j, 0 ≤ cut j ∧ cut j ≤ 64) : GV n (fall su so cut 0) q h T := by
  have Ds : Dsk n su so := dsk_apps V.D (fun m hm => V.first_good m (hso m hm)) (fun m hm => (V.first_is (hso m hm)).1) hlen
  have D2 := dsk_fall Ds hc
  have hl := V.D.len
  have hl2 := D2.len
  have hw := V.wd.1
  have hw2 : wdN (fall su so cut 0) = wdN su := by unfold wdN; rw [hl, hl2]
  have hT := V.l
  have hh := half_le (wd := wdN su) V.h1
  have hh2 := half_le (wd := wdN su) (half_one V.h1 ins)
  have hz := V.D.fits.sur
  have key : ∀ (b j : Nat), b < su.length → j < 64 → bt (blkN (fall su so cut 0) b) (j : Int) = bt (blkN su b) (j : Int) ∨ ∃ m ∈ so, m.f1 = b ∧ bt (blkN (fall su so cut 0) b) (j : Int) = bt m.f2 (j : Int) := fall_byteV so su cut 0 Ds.fits hc
  have sz : ∀ b, b < su.length → (blkN (fall su so cut 0) b).size = 64 := fun b hb => blk_size D2.fits.sur (by omega)
  refine ⟨D2, V.n4, V.n400, V.h1, V.q1, by rw [hw2]; exact hT, ?_, ?_, fun p hp => ?_⟩
  · rw [← V.this]
    refine bt_ext (n := 64) (sz _ (by omega)) (blk_size hz (by omega)) (fun i hi => ?_)
    rcases key (q % 2) i (by omega) hi with e | ⟨m, hm, e1, e2⟩
    · exact e
    · obtain ⟨_, _, (⟨f1, _⟩ | ⟨j, hj, f1, _⟩)⟩ := V.first_is (hso m hm) <;> omega
  · obtain ⟨q', h', l', k, hpar, F, hlt⟩ := V.other
    have F2 : Form (blkN (fall su so cut 0) (1 - q % 2)) (headP q' h' l') := fun i hi => by
      rcases key (1 - q % 2) i (by omega) hi with e | ⟨m, hm, e1, e2⟩
      · rw [e]; exact F i hi
      · obtain ⟨_, _, (⟨f1, f2⟩ | ⟨j, hj, f1, _⟩)⟩ := V.first_is (hso m hm)
        · exact .inl (by rw [e2, f2, bt_blank hi])
        · omega
    refine ⟨q', h', l', by rw [hw2]; exact k, hpar, F2, ?_⟩
    rcases hlt with hlt | hne
    · exact .inl hlt
    · refine .inr (fun e => hne ?_)
      refine bt_ext (n := 64) (blk_size hz (by omega)) (headP_size _ _ _) (fun i hi => ?_)
      rcases key (1 - q % 2) i (by omega) hi with e3 | ⟨m, hm, e1, e2⟩
      · rw [← e3, e]
      · obtain ⟨_, _, (⟨f1, f2⟩ | ⟨j, hj, f1, _⟩)⟩ := V.first_is (hso m hm)
        · rw [f2, bt_blank hi, e] at e2
          rcases F i hi with f | f <;> omega
        · omega
  · rw [← V.txt p hp]
    unfold hbt
    rw [hw2]
    rcases key (2 + h * wdN su + p / 64) (p % 64) (by omega) (by omega) with e | ⟨m, hm, e1, e2⟩
    · exact e
    · obtain ⟨_, _, (⟨f1, f2⟩ | ⟨j, hj, f1, f3⟩)⟩ := V.first_is (hso m hm)
      · omega
      · rw [e2, f3 _ (by omega)]
        have hj2 : halfN h ins = h ∧ j = p / 64 ∧ ins = false := by
          cases ins with
          | false => exact ⟨rfl, by have : halfN h false = h := rfl; rw [this] at f1; omega, rfl⟩
          | true =>
            have e5 : halfN h true = 1 - h := rfl
            rw [e5] at f1
            have h1 := V.h1
            rcases (show h = 0 ∨ h = 1 by omega) with rfl | rfl
            · simp at f1 e1; omega
            · simp at f1 e1; omega
        obtain ⟨g1, rfl, rfl⟩ := hj2
        rw [g1, show 64 * (p / 64) + p % 64 = p by omega]
        have hsz : (nextT T s false).size = T.size + s.size := ByteArray.size_append
        rw [if_pos (by omega), show nextT T s false = T ++ s from rfl, bt_left hp]
        exact (V.txt p hp).symm
end
end Go.Proofs.Ytcfinlmocgbnbaa.Pr
end
section
namespace Go.Proofs.Ytcfinlmocgbnbaa.Pr
open Go.RowKit Go.Shelf Go.Proofs.Ytcfinlmocgbnbaa.XB Go.Proofs.YtcfinlmocgbnbaaW.PrintWords Go.Proofs.YtcfinlmocgbnbaaW.PrintMore
set_option linter.unusedVariables false
set_option linter.unusedSimpArgs false
theorem runL_appV : ∀ (l1 l2 : List S24) (su : List ByteArray) (so : List S24), runL su so (l1 ++ l2) = runL (runL su so l1).1 (runL su so l1).2 l2
  | [], _, _, _ => rfl
  | m :: l1, l2, su, so => by
    simp only [List.cons_append, runL]
    split <;> exact runL_appV l1 l2 _ _
theorem runL_puts : ∀ (l : List S24) (su : List ByteArray) (so : List S24), (∀ m ∈ l, m.f0 = false) → runL su so l = (su, so ++ l)
  | [], _, _, _ => by simp [runL]
  | m :: l, su, so, h => by
    have h0 := h m (by simp)
    simp only [runL, h0, Bool.false_eq_true, if_false]
    rw [runL_puts l su (so ++ [m]) (fun x hx => h x (by simp [hx]))]
    simp
section
variable {n : Nat} {su : List ByteArray} {q h : Nat} {T s : ByteArray} {ins : Bool}
def syncN (su : List ByteArray) (q h : Nat) (T s : ByteArray) (ins : Bool) : List ByteArray := fall su (firstN su q h T s ins) (fun _ => 64) 0
theorem GV.sync_old (V : GV n su q h T) : GV n (syncN su q h T s ins) q h T :=
  V.old (fun m hm => hm) (by have := V.first_len (s := s) (ins := ins); have := V.wd.2; omega) (fun _ => by omega)
theorem GV.first_dsk (V : GV n su q h T) : Dsk n su (firstN su q h T s ins) :=
  dsk_apps V.D V.first_good (fun m hm => (V.first_is hm).1) (by have := V.first_len (s := s) (ins := ins); have := V.wd.2; omega)
theorem GV.sync_blank (V : GV n su q h T) : blkN (syncN su q h T s ins) (1 - q % 2) = blank := by
  have hl := V.D.len
  have h4 := V.n4
  rcases fall_allV _ su 0 (V.first_dsk (s := s) (ins := ins)).fits (1 - q % 2) (by omega) with ⟨_, hno⟩ | ⟨m, hm, e1, e2⟩
  · exact absurd (show (((q + 1) % 2 : Nat) : Int) = ((1 - q % 2 : Nat) : Int) by omega) (hno ⟨false, (((q + 1) % 2 : Nat) : Int), blank⟩ (List.mem_append_right _ (by simp)))
  · obtain ⟨_, _, (⟨f1, f2⟩ | ⟨j, hj, f1, _⟩)⟩ := V.first_is hm
    · exact e2.trans f2
    · omega
theorem GV.sync_text (V : GV n su q h T) (hfit : (nextT T s ins).size ≤ 64 * wdN su) (p : Nat) (hp : p < (nextT T s ins).size) : hbt (syncN su q h T s ins) (halfN h ins) p = bt (nextT T s ins) p := by
  have hl := V.D.len
  have hw := V.wd.1
  have D2 := V.sync_old (s := s) (ins := ins) |>.D
  have hw2 : wdN (syncN su q h T s ins) = wdN su := by have := D2.len; unfold wdN; omega
  have hh2 := half_le (wd := wdN su) (half_one V.h1 ins)
  unfold hbt
  rw [hw2]
  rcases fall_allV _ su 0 (V.first_dsk (s := s) (ins := ins)).fits (2 + halfN h ins * wdN su + p / 64) (by omega) with ⟨e, hno⟩ | ⟨m, hm, e1, e2⟩
  · have hnil : mvK su (nextT T s ins) (((nextT T s ins).size : Int) - (s.size : Int)) (2 + halfN h ins * wdN su) (p / 64) = [] := by
      rcases hk : mvK su (nextT T s ins) (((nextT T s ins).size : Int) - (s.size : Int)) (2 + halfN h ins * wdN su) (p / 64) with _ | ⟨m, l⟩
      · rfl
      · have hm : m ∈ mvK su (nextT T s ins) (((nextT T s ins).size : Int) - (s.size : Int)) (2 + halfN h ins * wdN su) (p / 64) := by rw [hk]; simp
        obtain ⟨_, e1, _⟩ := mvK_is (blk_size V.D.fits.sur (by omega)) hm
        exact absurd e1 (hno m (List.mem_append_left _ (mvU_sub _ _ (by omega) m hm)))
    have hlt := mvK_nil hnil (i := p % 64) (by omega) (by omega)
    rw [show blkN (syncN su q h T s ins) (2 + halfN h ins * wdN su + p / 64) = blkN su (2 + halfN h ins * wdN su + p / 64) from e]
    cases ins with
    | true => have hsz : (nextT T s true) = s := rfl
              rw [hsz] at hlt
              omega
    | false =>
      have hsz : (nextT T s false).size = T.size + s.size := ByteArray.size_append
      rw [show nextT T s false = T ++ s from rfl, bt_left (by omega), show halfN h false = h from rfl]
      exact V.txt p (by omega)
  · obtain ⟨_, _, (⟨f1, f2⟩ | ⟨j, hj, f1, f3⟩)⟩ := V.first_is hm
    · omega
    · obtain rfl : j = p / 64 := by omega
      rw [show blkN (syncN su q h T s ins) (2 + halfN h ins * wdN su + p / 64) = m.f2 from e2, f3 _ (by omega), if_pos (by omega)]
      congr 1
      omega
theorem GV.headed (V : GV n su q h T) (hq : q + 1 ≤ 1000000) (hfit : (nextT T s ins).size ≤ 64 * wdN su) {c : Int} (c0 : 0 ≤ c) (c1 : c ≤ 64) :
    GV n (put1 (syncN su q h T s ins) (headM su q h T s ins) c) q h T ∧ c ≠ 64 ∨ GV n (put1 (syncN su q h T s ins) (headM su q h T s ins) c) (q + 1) (halfN h ins) (nextT T s ins) := by
  have W := V.sync_old (s := s) (ins := ins)
  have hb := V.sync_blank (s := s) (ins := ins)
  have ht := V.sync_text (s := s) (ins := ins) hfit
  have hl0 := V.D.len
  generalize hX : syncN su q h T s ins = X at *
  have hl := W.D.len
  have hw := W.wd.1
  have hwX : wdN X = wdN su := by unfold wdN; omega
  have hf1 : (headM su q h T s ins).f1 = ((1 - q % 2 : Nat) : Int) := by show (((q + 1) % 2 : Nat) : Int) = _; omega
  have hf2 : (headM su q h T s ins).f2 = headP (q + 1) (halfN h ins) (nextT T s ins).size := rfl
  have hf0 : (headM su q h T s ins).f0 = false := rfl
  have h4 := W.n4
  have hlen : (put1 X (headM su q h T s ins) c).length = n := by rw [put1_len]; exact hl
  have hwY : wdN (put1 X (headM su q h T s ins) c) = wdN X := by unfold wdN; omega
  have D2 : Dsk n (put1 X (headM su q h T s ins) c) [] := by
    have D1 : Dsk n X [headM su q h T s ins] := dsk_apps W.D (fun m hm => by
      obtain rfl := List.mem_singleton.1 hm
      exact ⟨fun h => (by cases h), fun _ => ⟨by omega, by omega, headP_size _ _ _⟩⟩) (fun m hm => by obtain rfl := List.mem_singleton.1 hm; rfl) (by simp)
    exact dsk_fall D1 (cut := fun _ => c) (fun _ => ⟨c0, c1⟩)
  have blk : ∀ b : Nat, blkN (put1 X (headM su q h T s ins) c) b = if b = 1 - q % 2 then (headP (q + 1) (halfN h ins) (nextT T s ins).size).extract 0 c.toNat ++ blank.extract c.toNat 64 else blkN X b := fun b => by
    unfold blkN
    rw [put1_blk ⟨by omega, by omega⟩ b, hf1]
    by_cases e : b = 1 - q % 2
    · rw [if_pos (by omega), if_pos e, hf2]
      have hb2 : rdOf ByteArray.empty X (b : Int) = blank := by rw [e]; exact hb
      rw [hb2, blank_size]
    · rw [if_neg (by omega), if_neg e]
  have txt : ∀ (h' p : Nat), 2 + h' * wdN X + p / 64 ≠ 1 - q % 2 → hbt (put1 X (headM su q h T s ins) c) h' p = hbt X h' p := fun h' p hne => by
    unfold hbt
    rw [hwY, blk, if_neg hne]
  have ok2 : HOk (wdN X) (q + 1) (halfN h ins) (nextT T s ins).size := ⟨by omega, half_one V.h1 ins, by rw [hwX]; exact hfit⟩
  have this2 : blkN (put1 X (headM su q h T s ins) c) (q % 2) = headP q h T.size := by rw [blk, if_neg (by omega)]; exact W.this
  by_cases he : blkN (put1 X (headM su q h T s ins) c) (1 - q % 2) = headP (q + 1) (halfN h ins) (nextT T s ins).size
  · refine .inr ⟨D2, h4, W.n400, half_one V.h1 ins, hq, by rw [hwY]; exact ok2.l, ?_, ?_, fun p hp => ?_⟩
    · rw [show (q + 1) % 2 = 1 - q % 2 by omega]
      exact he
    · refine ⟨q, h, T.size, by rw [hwY]; exact W.ok, by omega, ?_, .inl (by omega)⟩
      rw [show 1 - (q + 1) % 2 = q % 2 by omega, this2]
      exact fun i _ => .inr rfl
    · rw [txt _ p (by omega)]
      exact ht p hp
  · refine .inl ⟨⟨D2, h4, W.n400, W.h1, W.q1, by rw [hwY]; exact W.l, this2, ?_, fun p hp => ?_⟩, ?_⟩
    · refine ⟨q + 1, halfN h ins, (nextT T s ins).size, by rw [hwY]; exact ok2, by omega, fun i hi => ?_, .inr he⟩
      rw [blk, if_pos rfl, bt_mix (by rw [headP_size]; omega) blank_size (by omega) hi]
      split
      · exact .inr rfl
      · exact .inl (bt_blank hi)
    · rw [txt _ p (by omega)]
      exact W.txt p hp
    · rintro rfl
      apply he
      rw [blk, if_pos rfl]
      refine bt_ext (n := 64) (mix_size (by rw [headP_size]; decide) blank_size (by decide)) (headP_size _ _ _) (fun i hi => ?_)
      rw [bt_mix (by rw [headP_size]; decide) blank_size (by decide) hi, if_pos (by show i < 64; exact hi)]
def doneN (su : List ByteArray) (q h : Nat) (T s : ByteArray) (ins : Bool) : List ByteArray := put1 (syncN su q h T s ins) (headM su q h T s ins) 64
theorem GV.next (V : GV n su q h T) (hq : q + 1 ≤ 1000000) (hfit : (nextT T s ins).size ≤ 64 * wdN su) : GV n (doneN su q h T s ins) (q + 1) (halfN h ins) (nextT T s ins) := by
  rcases V.headed hq hfit (c := 64) (by omega) (by omega) with ⟨_, h⟩ | h
  · exact absurd rfl h
  · exact h
theorem GV.run_first (V : GV n su q h T) : runL su [] (firstN su q h T s ins) = (su, firstN su q h T s ins) := by
  rw [runL_puts _ _ _ (fun m hm => (V.first_is hm).1)]; simp
theorem GV.moves_good (V : GV n su q h T) : ∀ m ∈ firstN su q h T s ins ++ [syncM, headM su q h T s ins, syncM], Good n m := fun m hm => by
  rcases List.mem_append.1 hm with hm | hm
  · exact V.first_good m hm
  · have h4 := V.n4
    have hs : Good n syncM := sync_good n
    rcases List.mem_cons.1 hm with rfl | hm
    · exact hs
    · rcases List.mem_cons.1 hm with rfl | hm
      · exact ⟨fun h => (by cases h), fun _ => ⟨by show (0 : Int) ≤ (((q + 1) % 2 : Nat) : Int); omega, by show (((q + 1) % 2 : Nat) : Int) < n; omega, headP_size _ _ _⟩⟩
      · obtain rfl := List.mem_singleton.1 hm
        exact hs
theorem doB_of {l : List S24} (D : Dsk n su []) (h1 : 1 ≤ n) (h2 : n ≤ 400) (hg : ∀ m ∈ l, Good n m) (hl : l.length ≤ 3000) : doB su [] l = ((runL su [] l).1, (runL su [] l).2, 0) ∧ Dsk n (runL su [] l).1 (runL su [] l).2 := by
  obtain ⟨e, d, _⟩ := do_ok D h1 h2 hg (by simpa using hl)
  have hlen := D.len
  unfold disk_Do.f at e
  rw [if_pos ⟨by omega, by simp⟩] at e
  exact ⟨Option.some.inj e, d⟩
theorem GV.run_all (V : GV n su q h T) : runL su [] (firstN su q h T s ins ++ [syncM, headM su q h T s ins, syncM]) = (doneN su q h T s ins, []) := by
  rw [runL_appV, V.run_first]
  rfl
theorem GV.keeps (V : GV n su q h T) (hq : q + 1 ≤ 1000000) (hs : s.size ≤ 1000) (hfit : (nextT T s ins).size ≤ 64 * wdN su) :
    vault_Keep.f su [] (q : Int) (h : Int) (T.size : Int) s ins = some (doneN su q h T s ins, [], (q : Int) + 1, (halfN h ins : Int), ((nextT T s ins).size : Int), 0) := by
  have hfl := V.first_len (s := s) (ins := ins)
  have hw := V.wd.2
  have h4 := V.n4
  obtain ⟨e, _⟩ := doB_of V.D (by omega) V.n400 (V.moves_good (s := s) (ins := ins)) (by simp; omega)
  rw [V.run_all] at e
  unfold vault_Keep.f
  rw [if_pos (next_iff.2 ⟨rfl, V.gs, by omega, hs⟩)]
  simp only [Int.toNat_natCast]
  rw [if_pos (show fitsB su h T.size s ins = true from decide_eq_true (by rw [V.all]; exact hfit)), V.moves, e, V.all]
theorem GV.movess (V : GV n su q h T) (hq : q + 1 ≤ 1000000) (hs : s.size ≤ 1000) (hfit : (nextT T s ins).size ≤ 64 * wdN su) :
    vault_Moves.f su [] (q : Int) (h : Int) (T.size : Int) s ins = some (firstN su q h T s ins ++ [syncM, headM su q h T s ins, syncM], 0) := by
  unfold vault_Moves.f
  rw [if_pos (next_iff.2 ⟨rfl, V.gs, by omega, hs⟩)]
  simp only [Int.toNat_natCast]
  rw [if_pos (show fitsB su h T.size s ins = true from decide_eq_true (by rw [V.all]; exact hfit)), V.moves]
theorem GV.moves_long (V : GV n su q h T) (hq : q + 1 ≤ 1000000) (hs : s.size ≤ 1000) (hfit : 64 * wdN su < (nextT T s ins).size) :
    vault_Moves.f su [] (q : Int) (h : Int) (T.size : Int) s ins = some ([], 2) := by
  unfold vault_Moves.f
  rw [if_pos (next_iff.2 ⟨rfl, V.gs, by omega, hs⟩)]
  simp only [Int.toNat_natCast]
  rw [if_neg (fun hf => by have := of_decide_eq_true (show decide ((allN su h T.size s ins).size ≤ 64 * wdN su) = true from hf); rw [V.all] at this; omega)]
theorem GV.crash (V : GV n su q h T) (hq : q + 1 ≤ 1000000) (hfit : (nextT T s ins).size ≤ 64 * wdN su) (k : Nat) (hk : k ≤ (firstN su q h T s ins).length + 3) :
    ∃ (X : List ByteArray) (so : List S24), doB su [] ((firstN su q h T s ins ++ [syncM, headM su q h T s ins, syncM]).take k) = (X, so, 0) ∧ Dsk n X so ∧
      ∀ cut : Nat → Int, (∀ j, 0 ≤ cut j ∧ cut j ≤ 64) → (GV n (fall X so cut 0) q h T ∧ k < (firstN su q h T s ins).length + 3) ∨ GV n (fall X so cut 0) (q + 1) (halfN h ins) (nextT T s ins) := by
  have hfl := V.first_len (s := s) (ins := ins)
  have hw := V.wd.2
  have h4 := V.n4
  obtain ⟨e, d⟩ := doB_of (l := (firstN su q h T s ins ++ [syncM, headM su q h T s ins, syncM]).take k) V.D (by omega) V.n400 (fun m hm => V.moves_good (s := s) (ins := ins) m (List.mem_of_mem_take hm)) (by rw [List.length_take]; simp; omega)
  refine ⟨_, _, e, d, ?_⟩
  clear e d
  by_cases h1 : k ≤ (firstN su q h T s ins).length
  · rw [List.take_append_of_le_length h1, runL_puts _ _ _ (fun m hm => (V.first_is (List.mem_of_mem_take hm)).1)]
    intro cut hc
    exact .inl ⟨V.old (s := s) (ins := ins) (fun m hm => List.mem_of_mem_take (by simpa using hm)) (by simp; omega) hc, by omega⟩
  · obtain ⟨j, rfl⟩ : ∃ j, k = (firstN su q h T s ins).length + j := ⟨k - (firstN su q h T s ins).length, by omega⟩
    rw [List.take_length_add_append, runL_appV, V.run_first]
    rcases (show j = 1 ∨ j = 2 ∨ j = 3 by omega) with rfl | rfl | rfl
    · intro cut hc
      exact .inl ⟨V.sync_old (s := s) (ins := ins), by omega⟩
    · intro cut hc
      rcases V.headed (s := s) (ins := ins) hq hfit (hc 0).1 (hc 0).2 with h | h
      · exact .inl ⟨h.1, by omega⟩
      · exact .inr h
    · intro cut hc
      exact .inr (V.next (s := s) (ins := ins) hq hfit)
end
end Go.Proofs.Ytcfinlmocgbnbaa.Pr
end
section
set_option linter.unusedVariables false
set_option linter.unusedSimpArgs false
namespace Go.Proofs.Ytcfinlmocgbnbaa.Pr
open Go.RowKit Go.Proofs.YtcfinlmocgbnbaaW.PrintWords Go.Proofs.YtcfinlmocgbnbaaW.PrintLast Go.Proofs.YtcfinlmocgbnbaaW.PrintMore
theorem pick15 {a n : Int} (ha : I64 a) (hn : 0 < n) (hn2 : n ≤ 1000000) : ∃ p, columbariumlaw15_pick.f a n = some p ∧ 0 ≤ p ∧ p < n := by
  unfold I64 at ha
  unfold columbariumlaw15_pick.f
  by_cases h : a < 0
  · have e1 : wrap64 (a + 1) = a + 1 := by unfold wrap64; omega
    have e2 : wrap64 (-(a + 1)) = -(a + 1) := by unfold wrap64; omega
    rw [if_pos h, if_neg (by omega), e1, e2]
    exact ⟨_, rfl, Int.tmod_nonneg _ (by omega), Int.tmod_lt_of_pos _ hn⟩
  · rw [if_neg h, if_neg (by omega)]
    exact ⟨_, rfl, Int.tmod_nonneg _ (by omega), Int.tmod_lt_of_pos _ hn⟩
theorem text_l0 {c : Nat} (hc : c ≤ 100) : ∀ (d i k : Nat) (xs : List Int), i + d = c → xs.length = i → d < k → ∃ s, columbariumlaw15_Text.l0 k xs (c : Int) (i : Int) = some s ∧ s.size = c
  | 0, i, k, xs, h, hx, hk => by
    obtain ⟨k, rfl⟩ : ∃ m, k = m + 1 := ⟨k - 1, by omega⟩
    simp only [columbariumlaw15_Text.l0]
    rw [if_neg (by omega)]
    exact ⟨_, rfl, by rw [strOf_size]; omega⟩
  | d + 1, i, k, xs, h, hx, hk => by
    obtain ⟨k, rfl⟩ : ∃ m, k = m + 1 := ⟨k - 1, by omega⟩
    simp only [columbariumlaw15_Text.l0]
    rw [if_pos (by omega), if_pos (by omega), show wrap64 ((i : Int) + 1) = ((i + 1 : Nat) : Int) by unfold wrap64; omega]
    exact text_l0 hc d (i + 1) k _ (by omega) (by simp [hx]) (by omega)
theorem text_draw {a : Int} (ha : I64 a) {k : Nat} (hk : 200 < k) : ∃ s, columbariumlaw15_Text.f k a = some s ∧ s.size ≤ 100 := by
  obtain ⟨p, hp, p0, p1⟩ := pick15 ha (n := 101) (by omega) (by omega)
  obtain ⟨c, rfl⟩ : ∃ c : Nat, p = c := ⟨p.toNat, by omega⟩
  obtain ⟨s, hs, hsz⟩ := text_l0 (c := c) (by omega) c 0 k [] (by omega) rfl (by omega)
  refine ⟨s, ?_, by omega⟩
  unfold columbariumlaw15_Text.f
  rw [hp, Option.bind_some]
  exact hs
theorem gv_ready {n : Nat} (h4 : 4 ≤ n) (h400 : n ≤ 400) {su : List ByteArray} (D : Dsk n su []) (e0 : blkN su 0 = headP 0 0 0) (e1 : blkN su 1 = blank) : GV n su 0 0 ⟨#[]⟩ := by
  refine ⟨D, h4, h400, by omega, by omega, by show 0 ≤ _; omega, e0, ⟨1, 0, 0, ⟨by omega, by omega, by omega⟩, rfl, fun i hi => .inl (by show bt (blkN su 1) _ = 0; rw [e1]; exact bt_blank hi), .inr ?_⟩, fun p hp => absurd hp (by show ¬ p < 0; omega)⟩
  show blkN su 1 ≠ _
  rw [e1]
  intro e
  have h1 := bt_head2 1 0 0 (i := 0) (by omega)
  rw [← e, bt_blank (by omega), bt_blank (by omega)] at h1
  omega
theorem format_ok {n : Nat} (h4 : 4 ≤ n) (h400 : n ≤ 400) {k : Nat} (hk : 30 ≤ k) : ∃ su, vault_Format.f k (List.replicate n blank) [] = some (su, [], 0, 0, 0, 0) ∧ GV n su 0 0 ⟨#[]⟩ := by
  have D := dsk_new n
  have hr := D.right (by omega) h400
  have hm : vault_may.f (List.replicate n blank) [] = some true := may_ok hr (by simp; omega)
  have hh : vault_book_head.f k [] [] 0 0 0 = some (headP 0 0 0) := at_rounds (g := fun k => vault_book_head.f k [] [] 0 0 0) (fun k => vault_book_head.mono _ _ _ _ _ k) hk (head_eq [] [] 0 0 0)
  obtain ⟨m0, hm0⟩ : ∃ m0 : S24, m0 = ⟨false, 0, headP 0 0 0⟩ := ⟨_, rfl⟩
  obtain ⟨m1, hm1⟩ : ∃ m1 : S24, m1 = ⟨false, 1, blank⟩ := ⟨_, rfl⟩
  have g0 : Good n m0 := by rw [hm0]; exact ⟨fun h => (by cases h), fun _ => ⟨by show (0 : Int) ≤ 0; omega, by show (0 : Int) < n; omega, headP_size _ _ _⟩⟩
  have g1 : Good n m1 := by rw [hm1]; exact ⟨fun h => (by cases h), fun _ => ⟨by show (0 : Int) ≤ 1; omega, by show (1 : Int) < n; omega, blank_size⟩⟩
  have f0 : m0.f0 = false := by rw [hm0]
  have f1 : m1.f0 = false := by rw [hm1]
  have D2 : Dsk n (List.replicate n blank) [m0, m1] := dsk_apps D (fun m hm => by rcases List.mem_cons.1 hm with rfl | hm; (exact g0); (obtain rfl := List.mem_singleton.1 hm; exact g1)) (fun m hm => by rcases List.mem_cons.1 hm with rfl | hm; (exact f0); (obtain rfl := List.mem_singleton.1 hm; exact f1)) (by simp)
  obtain ⟨e, _, _⟩ := do_ok (l := [m0, m1, ⟨true, 0, ⟨#[]⟩⟩]) D (by omega) h400 (fun m hm => by
    rcases List.mem_cons.1 hm with rfl | hm
    · exact g0
    · rcases List.mem_cons.1 hm with rfl | hm
      · exact g1
      · obtain rfl := List.mem_singleton.1 hm; exact sync_good n) (by simp)
  have er : runL (List.replicate n blank) [] [m0, m1, ⟨true, 0, ⟨#[]⟩⟩] = (fall (List.replicate n blank) [m0, m1] (fun _ => 64) 0, []) := by
    simp only [runL, f0, f1, Bool.false_eq_true, if_false, if_true]
    rfl
  rw [er] at e
  have D3 := dsk_fall D2 (cut := fun _ => 64) (fun _ => by omega)
  refine ⟨_, ?_, gv_ready h4 h400 D3 ?_ ?_⟩
  · unfold vault_Format.f
    rw [hm, Option.bind_some, if_pos rfl, hh, Option.bind_some, show vault_blank.f = some blank from rfl, Option.bind_some, ← hm0, ← hm1, e]
    rfl
  · rcases fall_allV [m0, m1] (List.replicate n blank) 0 D2.fits 0 (by simp; omega) with ⟨_, hno⟩ | ⟨m, hm, h1, h2⟩
    · exact absurd (show m0.f1 = ((0 : Nat) : Int) by rw [hm0]; rfl) (hno m0 (by simp))
    · rcases List.mem_cons.1 hm with rfl | hm
      · rw [h2, hm0]
      · obtain rfl := List.mem_singleton.1 hm
        rw [hm1] at h1
        exact absurd h1 (by decide)
  · rcases fall_allV [m0, m1] (List.replicate n blank) 0 D2.fits 1 (by simp; omega) with ⟨_, hno⟩ | ⟨m, hm, h1, h2⟩
    · exact absurd (show m1.f1 = ((1 : Nat) : Int) by rw [hm1]; rfl) (hno m1 (by simp))
    · rcases List.mem_cons.1 hm with rfl | hm
      · rw [hm0] at h1
        exact absurd h1 (by decide)
      · obtain rfl := List.mem_singleton.1 hm
        rw [h2, hm1]
end Go.Proofs.Ytcfinlmocgbnbaa.Pr
end
section
set_option linter.unusedVariables false
namespace Go.Proofs.Ytcfinlmocgbnbaa.Pr
open Go.RowKit Go.Proofs.YtcfinlmocgbnbaaW.PrintWords Go.ChangeShapes Go.WideShapes Go.ChangeAt
def wf67 (l : List S67) : Prop := ∀ x ∈ l, (Lit.int .i64 x.f0).wf = true ∧ (Lit.int .i64 x.f1).wf = true ∧ (Lit.int .i64 x.f2).wf = true
section
variable {H : Type} {enc : TypeId × Value → H} {w : World} {base : Nat} {spare : Nat → Bool} {held : Bool} {fuel : Nat}
set_option maxRecDepth 100000 in
theorem open_67 {cs : List Value} {x : DataW H × List MemPlace} (h : DataW.trod enc Try.prog w base spare held fuel 67 cs = some x) :
    ∃ s : S67, cs = [.int .i64 s.f0, .int .i64 s.f1, .int .i64 s.f2] ∧ (Lit.int .i64 s.f0).wf = true ∧ (Lit.int .i64 s.f1).wf = true ∧ (Lit.int .i64 s.f2).wf = true := by
  obtain ⟨xs, m, rfl, rfl, hl, hx, he⟩ := DataW.trod_array Try.underlying67 h
  have hc : Try.prog.cellsOf 67 = 3 := by kernel_rfl
  have hc3 : Try.prog.cellsOf 3 = 1 := by kernel_rfl
  rw [hc] at hl
  match cs, hl with
  | [u0, u1, u2], _ =>
    have g : ∀ i, (hi : i < 3) → ∃ n, ((([u0, u1, u2] : List Value).drop (i * 1)).take 1) = [.int .i64 n] ∧ (Lit.int .i64 n).wf = true := fun i hi => by
      have := he i hi
      rw [hc3, List.getElem?_eq_getElem (by omega)] at this
      obtain ⟨n, e, _, hw⟩ := DataW.trod_int Try.underlying3 this
      exact ⟨n, e, hw⟩
    obtain ⟨n0, e0, w0⟩ := g 0 (by omega)
    obtain ⟨n1, e1, w1⟩ := g 1 (by omega)
    obtain ⟨n2, e2, w2⟩ := g 2 (by omega)
    simp at e0 e1 e2
    subst e0
    subst e1
    subst e2
    exact ⟨⟨n0, n1, n2⟩, rfl, w0, w1, w2⟩
set_option maxRecDepth 100000 in
theorem open_rows67 {a : Option Addr} {len cap : Nat} {d : DataW H} {p : List MemPlace} (h : DataW.Trod enc Try.prog w base spare held 22 (.slice a len cap) d p) :
    ∃ l : List S67, len = l.length ∧ Kd.C k67 w a l.length l ∧ l.length ≤ cap ∧ l.length ≤ maxLen ∧ wf67 l := by
  obtain ⟨fuel, hf⟩ := h
  have hc : Try.prog.cellsOf 67 = 3 := by kernel_rfl
  rcases DataW.trod_slice Try.underlying22 hf with ⟨hcs, _⟩ | ⟨ad, l, c, elems, rest, n, rfl, hcs, _, _, hlc, hcm, hel, hcell, _⟩
  · simp [Value.cells] at hcs
    obtain ⟨rfl, rfl, rfl⟩ := hcs
    exact ⟨[], rfl, ⟨rfl, by simp, fun h => absurd h (by simp)⟩, by simp, by simp, fun x hx => by cases hx⟩
  · simp [Value.cells] at hcs
    obtain ⟨rfl, rfl, rfl⟩ := hcs
    rw [hc] at hcell
    have each : ∀ i, i < len → ∃ s : S67, (∀ j u, ([.int .i64 s.f0, .int .i64 s.f1, .int .i64 s.f2] : List Value)[j]? = some u → w.cell? (ad.add (i * 3 + j)) = some u) ∧ (Lit.int .i64 s.f0).wf = true ∧ (Lit.int .i64 s.f1).wf = true ∧ (Lit.int .i64 s.f2).wf = true := fun i hi => by
      have h1 := hcell i hi
      rw [List.getElem?_eq_getElem (by omega), Option.bind_eq_some_iff] at h1
      obtain ⟨cs, h2, h3⟩ := h1
      obtain ⟨s, rfl, w0, w1, w2⟩ := open_67 h3
      refine ⟨s, fun j u hj => ?_, w0, w1, w2⟩
      have h4 := (World.cells?_some h2).2.2 j (by
        have := (List.getElem?_eq_some_iff.1 hj).1
        simpa using this)
      rw [hj] at h4
      rw [← h4, Addr.add_add]
    clear hcell
    have hs : ∃ l : List S67, l.length = len ∧ ∀ i s, l[i]? = some s → (∀ j u, ([.int .i64 s.f0, .int .i64 s.f1, .int .i64 s.f2] : List Value)[j]? = some u → w.cell? (ad.add (i * 3 + j)) = some u) ∧ (Lit.int .i64 s.f0).wf = true ∧ (Lit.int .i64 s.f1).wf = true ∧ (Lit.int .i64 s.f2).wf = true := by
      refine ⟨(List.range len).map fun i => if hi : i < len then (each i hi).choose else z67, by simp, fun i s hi => ?_⟩
      have hl := (List.getElem?_eq_some_iff.1 hi).1
      simp at hl
      simp [hl] at hi
      subst hi
      exact (each i hl).choose_spec
    obtain ⟨l, rfl, hl⟩ := hs
    have hmax : maxLen ≤ 9223372036854775807 := by decide
    refine ⟨l, rfl, ⟨rfl, by omega, fun _ => ⟨ad, rfl, fun j s hj => ⟨_, rfl, k67_mk w s, (hl j s hj).1⟩⟩⟩, hlc, by omega, fun x hx => ?_⟩
    obtain ⟨i, hi⟩ := List.getElem?_of_mem hx
    exact (hl i x hi).2
end
end Go.Proofs.Ytcfinlmocgbnbaa.Pr
end
section
set_option linter.unusedVariables false
set_option linter.unusedSimpArgs false
namespace Go.Proofs.Ytcfinlmocgbnbaa.Pure
open Go.RowKit Go.Proofs.Ytcfinlmocgbnbaa.Pr Go.Proofs.YtcfinlmocgbnbaaW.PrintWords Go.Proofs.YtcfinlmocgbnbaaW.PrintLast Go.Proofs.YtcfinlmocgbnbaaW.PrintMore
theorem wr_nextQ (i : Nat) (h : i < 100000000) : wrap64 ((i : Int) + 1) = ((i + 1 : Nat) : Int) := by unfold wrap64; omega
def wfR67 (l : List S67) : Prop := ∀ x ∈ l, I64 x.f0 ∧ I64 x.f1 ∧ I64 x.f2
theorem rd67_wf {l : List S67} (h : wfR67 l) {i : Nat} (hi : i < l.length) : I64 (rd_T67 l i).f0 ∧ I64 (rd_T67 l i).f1 ∧ I64 (rd_T67 l i).f2 := by
  have : rd_T67 l i = l[i] := by unfold rd_T67; simp [hi]
  rw [this]
  exact h _ (List.getElem_mem hi)
section
variable {raw : List S67} {cuts : List Int} {su X Y : List ByteArray} {so l : List S24} {q h z q' h' l' at_ : Int} {T s t u : ByteArray} {p : Int} {k i : Nat}
theorem cr_long (hi8 : i < 8) (hil : i < raw.length) (hs : columbariumlaw15_Text.f (k + 1) (rd_T67 raw i).f0 = some s) (hp : columbariumlaw15_pick.f (rd_T67 raw i).f1 3 = some p) (hm : vault_Moves.f su [] q h z s (p == 0) = some ([], 2)) :
    columbariumlaw15_VaultCrashes.l0 (k + 1 + 1 + 1) raw cuts true T at_ (i : Int) su [] q h z = columbariumlaw15_VaultCrashes.l0 (k + 1) raw cuts true T at_ (wrap64 ((i : Int) + 1)) su [] q h z := by
  rw [columbariumlaw15_VaultCrashes.l0, columbariumlaw15_VaultCrashes.j1]
  rw [if_pos (by omega), show decide ((i : Int) < 8) = true from decide_eq_true (by omega), if_pos rfl, if_pos (by omega), if_pos (by omega), hs, Option.bind_some, hp, Option.bind_some, hm, Option.bind_some, if_pos rfl]
theorem cr_j (hi8 : i < 8) (hil : i < raw.length) (hT : T.size ≤ 100000) (hs : columbariumlaw15_Text.f (k + 1) (rd_T67 raw i).f0 = some s) (hsz : s.size ≤ 100) (hp : columbariumlaw15_pick.f (rd_T67 raw i).f1 3 = some p) (hm : vault_Moves.f su [] q h z s (p == 0) = some (l, 0)) :
    columbariumlaw15_VaultCrashes.l0 (k + 1 + 1 + 1) raw cuts true T at_ (i : Int) su [] q h z = columbariumlaw15_VaultCrashes.j2 (k + 1) raw cuts true T at_ (i : Int) l (nextT T s (p == 0)) su [] q h z := by
  rw [columbariumlaw15_VaultCrashes.l0, columbariumlaw15_VaultCrashes.j1]
  rw [if_pos (by omega), show decide ((i : Int) < 8) = true from decide_eq_true (by omega), if_pos rfl, if_pos (by omega), if_pos (by omega), hs, Option.bind_some, hp, Option.bind_some, hm, Option.bind_some, if_neg (show ¬ ((0 : Int) = 2) by decide), if_pos rfl, if_pos (by omega)]
  by_cases hp0 : p = 0
  · rw [if_pos hp0, show nextT T s (p == 0) = s by rw [hp0]; rfl]
  · rw [if_neg hp0, show nextT T s (p == 0) = T ++ s by rw [show (p == 0) = false from beq_eq_false_iff_ne.mpr hp0]; rfl]
theorem cr_j2 {c : Nat} (hil : i < raw.length) (hl : l.length ≤ 1000) (hc : c ≤ l.length) (hp : columbariumlaw15_pick.f (rd_T67 raw i).f2 ((l.length : Int) + 1) = some (c : Int)) (hd : columbariumref14_Do.f k su [] (l.take c) = some (X, so, 0)) :
    columbariumlaw15_VaultCrashes.j2 (k + 1) raw cuts true T at_ (i : Int) l u su [] q h z = columbariumlaw15_VaultCrashes.l1 k raw cuts true T at_ (i : Int) l u (c : Int) 0 [] 0 X so := by
  rw [columbariumlaw15_VaultCrashes.j2]
  rw [if_pos (by omega), if_pos (by omega), show wrap64 ((l.length : Int) + 1) = (l.length : Int) + 1 by unfold wrap64; omega, hp, Option.bind_some, if_pos (by omega), if_pos (by omega), Int.toNat_natCast, hd, Option.bind_some]
theorem cr_l1 (hw : ∀ x ∈ cuts, I64 x) (hso : so.length ≤ 3000) {c : Int} : ∀ (d i2 k : Nat) (at_ : Nat) (own : List Int), i2 + d = so.length → own.length = i2 → at_ + d ≤ 10000000 →
    ∃ (own' : List Int) (at2 : Nat), at2 ≤ at_ + d ∧ columbariumlaw15_VaultCrashes.l1 (k + d) raw cuts true T (at_ : Int) (i : Int) l u c 0 own (i2 : Int) X so = columbariumlaw15_VaultCrashes.l1 k raw cuts true T (at2 : Int) (i : Int) l u c 0 own' (so.length : Int) X so
  | 0, i2, k, at_, own, h, ho, ha => ⟨own, at_, by omega, by rw [show i2 = so.length by omega]; rfl⟩
  | d + 1, i2, k, at_, own, h, ho, ha => by
    have hn : wrap64 ((i2 : Int) + 1) = ((i2 + 1 : Nat) : Int) := wr_nextQ i2 (by omega)
    have ha2 : wrap64 ((at_ : Int) + 1) = ((at_ + 1 : Nat) : Int) := wr_nextQ at_ (by omega)
    rw [show k + (d + 1) = (k + d) + 1 by omega, columbariumlaw15_VaultCrashes.l1, if_pos (by omega)]
    by_cases hc : (cuts.length : Int) > 0
    · have hm0 : 0 ≤ Int.tmod (at_ : Int) (cuts.length : Int) := Int.tmod_nonneg _ (by omega)
      have hm1 : Int.tmod (at_ : Int) (cuts.length : Int) < (cuts.length : Int) := Int.tmod_lt_of_pos _ hc
      have hr : I64 (rd cuts (Int.tmod (at_ : Int) (cuts.length : Int))) := by
        generalize Int.tmod (at_ : Int) (cuts.length : Int) = j at *
        obtain ⟨j, rfl⟩ : ∃ n : Nat, j = n := ⟨j.toNat, by omega⟩
        have hj : j < cuts.length := by omega
        rw [rd_get hj]
        exact hw _ (List.getElem_mem hj)
      obtain ⟨p, hp, _, _⟩ := pick15 hr (n := 65) (by omega) (by omega)
      have hown : own.length < 17592186044416 := by omega
      rw [if_pos hc, if_neg (by omega), if_pos hm0, if_pos hm1, hp, Option.bind_some, if_pos hown, hn, ha2]
      obtain ⟨o, a2, e1, e2⟩ := cr_l1 hw hso d (i2 + 1) k (at_ + 1) (own ++ [p]) (by omega) (by simp [ho]) (by omega)
      exact ⟨o, a2, by omega, e2⟩
    · have hown : own.length < 17592186044416 := by omega
      rw [if_neg hc, if_pos hown, hn, ha2]
      obtain ⟨o, a2, e1, e2⟩ := cr_l1 hw hso d (i2 + 1) k (at_ + 1) (own ++ [0]) (by omega) (by simp [ho]) (by omega)
      exact ⟨o, a2, by omega, e2⟩
theorem cr_end {own : List Int} {c : Int} (hc : columbariumref14_Crash.f k X so own = some (Y, [], 0)) (ho : vault_Open.f Y [] = some (Y, [], q', h', l', t, 0)) (hr : vault_Right.f Y [] q' h' l' = some true) :
    columbariumlaw15_VaultCrashes.l1 (k + 1) raw cuts true T at_ (i : Int) l u c 0 own (so.length : Int) X so = columbariumlaw15_VaultCrashes.j4 k raw cuts true T at_ (i : Int) l u c t false Y [] q' h' l' := by
  rw [columbariumlaw15_VaultCrashes.l1, if_neg (by omega), hc, Option.bind_some, ho, Option.bind_some, if_pos rfl, if_pos rfl, if_pos rfl, hr, Option.bind_some]
  rfl
theorem cr_new {c : Int} : columbariumlaw15_VaultCrashes.j4 (k + 1) raw cuts true T at_ (i : Int) l u c u false Y [] q' h' l' = columbariumlaw15_VaultCrashes.l0 k raw cuts true u at_ (wrap64 ((i : Int) + 1)) Y [] q' h' l' := by
  rw [columbariumlaw15_VaultCrashes.j4, if_neg (by decide), if_pos rfl]
theorem cr_old {c : Int} (hc : c ≠ l.length) : columbariumlaw15_VaultCrashes.j4 (k + 1) raw cuts true T at_ (i : Int) l u c T false Y [] q' h' l' = columbariumlaw15_VaultCrashes.l0 k raw cuts true T at_ (wrap64 ((i : Int) + 1)) Y [] q' h' l' := by
  rw [columbariumlaw15_VaultCrashes.j4, if_neg (by decide), if_pos rfl, if_neg hc]
  split <;> rfl
theorem cr_stop (hi : ¬ (i < raw.length ∧ i < 8)) : columbariumlaw15_VaultCrashes.l0 (k + 1 + 1) raw cuts true T at_ (i : Int) su [] q h z = some true := by
  rw [columbariumlaw15_VaultCrashes.l0, columbariumlaw15_VaultCrashes.j1, columbariumlaw15_VaultCrashes.j1]
  by_cases hlt : (i : Int) < raw.length
  · rw [if_pos hlt, show decide ((i : Int) < 8) = false from decide_eq_false (by omega), if_neg (by decide)]
  · rw [if_neg hlt, if_neg (by decide)]
end
theorem cr_fuel {n : Nat} {su : List ByteArray} {so : List S24} (D : Dsk n su so) (h1 : 1 ≤ n) (h2 : n ≤ 400) (own : List Int) {k : Nat} (hk : 4000 < k) : columbariumref14_Crash.f k su so own = some (fall su so (cutOf own) 0, [], 0) := by
  have hl := D.len
  have hf := D.few
  rw [rcrash_eq own (by omega) (by omega) hk]
  unfold crashB
  rw [if_pos (D.right h1 h2)]
theorem crashes_l0 {n : Nat} {raw : List S67} {cuts : List Int} (hw : wfR67 raw) (hc : ∀ x ∈ cuts, I64 x) : ∀ (d i k : Nat) (su : List ByteArray) (q h at_ : Nat) (T : ByteArray), GV n su q h T → q ≤ i → at_ ≤ 3000 * i → i ≤ 8 → i + d = min raw.length 8 → 4000 * d + 20000 < k →
    columbariumlaw15_VaultCrashes.l0 k raw cuts true T (at_ : Int) (i : Int) su [] (q : Int) (h : Int) (T.size : Int) = some true
  | 0, i, k, su, q, h, at_, T, V, hqi, hat, hi8, hid, hk => by
    obtain ⟨k, rfl⟩ : ∃ m, k = m + 1 + 1 := ⟨k - 2, by omega⟩
    exact cr_stop (by omega)
  | d + 1, i, k, su, q, h, at_, T, V, hqi, hat, hi8, hid, hk => by
    obtain ⟨k, rfl⟩ : ∃ m, k = m + 1 + 1 + 1 := ⟨k - 3, by omega⟩
    have hn := V.n4
    have hn2 := V.n400
    have hwd := V.wd.2
    have hTl := V.l
    have hlen := V.D.len
    have hil : i < raw.length := by omega
    have hi7 : i < 8 := by omega
    have hq6 : q + 1 ≤ 1000000 := by omega
    obtain ⟨w0, w1, w2⟩ := rd67_wf hw hil
    obtain ⟨s, hs, hsz⟩ := text_draw w0 (k := k + 1) (by omega)
    obtain ⟨p, hp, p0, p1⟩ := pick15 w1 (n := 3) (by omega) (by omega)
    by_cases hfit : (nextT T s (p == 0)).size ≤ 64 * wdN su
    · have hfl := V.first_len (s := s) (ins := (p == 0))
      rw [cr_j hi7 hil (by omega) hs hsz hp (V.movess hq6 (by omega) hfit)]
      have hml : (firstN su q h T s (p == 0) ++ [syncM, headM su q h T s (p == 0), syncM]).length = (firstN su q h T s (p == 0)).length + 3 := by simp
      obtain ⟨c, hcp, c0, c1⟩ := pick15 w2 (n := (((firstN su q h T s (p == 0) ++ [syncM, headM su q h T s (p == 0), syncM]).length : Nat) : Int) + 1) (by omega) (by omega)
      obtain ⟨c, rfl⟩ : ∃ c' : Nat, c = c' := ⟨c.toNat, by omega⟩
      obtain ⟨X, so, hdo, D, hcr⟩ := V.crash (s := s) (ins := (p == 0)) hq6 hfit c (by omega)
      have hXl := D.len
      have hsf := D.few
      have hlt1 : (firstN su q h T s (p == 0) ++ [syncM, headM su q h T s (p == 0), syncM]).length ≤ 1000 := by omega
      have hd2 : columbariumref14_Do.f k su [] ((firstN su q h T s (p == 0) ++ [syncM, headM su q h T s (p == 0), syncM]).take c) = some (X, so, 0) := by
        rw [rdo_eq (by rw [List.length_take]; omega) (by omega) (by simp) (by omega), hdo]
      rw [cr_j2 hil hlt1 (by omega) hcp hd2]
      obtain ⟨j, hj⟩ : ∃ j, k = (j + 1 + 1) + so.length := ⟨k - so.length - 2, by omega⟩
      obtain ⟨own, at2, ha2, he⟩ := cr_l1 (raw := raw) (cuts := cuts) (X := X) (so := so) (l := firstN su q h T s (p == 0) ++ [syncM, headM su q h T s (p == 0), syncM]) (T := T) (u := nextT T s (p == 0)) (i := i) (c := (c : Int)) hc hsf so.length 0 (j + 1 + 1) at_ [] (by omega) rfl (by omega)
      rw [← hj] at he
      rw [show ((0 : Nat) : Int) = 0 from rfl] at he
      rw [he]
      have hcc := cr_fuel D (by omega) hn2 own (k := j + 1) (by omega)
      have hat2 : at2 ≤ 3000 * (i + 1) := by omega
      have hqi1 : q + 1 ≤ i + 1 := by omega
      have hqi2 : q ≤ i + 1 := by omega
      have hi9 : i + 1 ≤ 8 := by omega
      have hid2 : i + 1 + d = min raw.length 8 := by omega
      have hk2 : 4000 * d + 20000 < j := by omega
      have hcn : c < (firstN su q h T s (p == 0)).length + 3 → (c : Int) ≠ ((firstN su q h T s (p == 0) ++ [syncM, headM su q h T s (p == 0), syncM]).length : Int) := by omega
      have hwi := wr_nextQ i (by omega)
      rcases hcr (cutOf own) (fun j => cutOf_range own j) with ⟨W, hlt⟩ | W
      · rw [cr_end hcc W.opens W.rights, cr_old (hcn hlt), hwi]
        exact crashes_l0 hw hc d (i + 1) j _ q h at2 T W hqi2 hat2 hi9 hid2 hk2
      · rw [cr_end hcc W.opens W.rights, cr_new, hwi]
        exact crashes_l0 hw hc d (i + 1) j _ (q + 1) _ at2 _ W hqi1 hat2 hi9 hid2 hk2
    · rw [cr_long hi7 hil hs hp (V.moves_long hq6 (by omega) (by omega)), wr_nextQ i (by omega)]
      exact crashes_l0 hw hc d (i + 1) (k + 1) su q h at_ T V (by omega) (by omega) (by omega) (by omega) (by omega)
theorem VaultCrashes (a0 : Int) (l1 : List S67) (l2 : List Int) (h0 : (Lit.int .i64 a0).wf = true) (h1 : l1.length ≤ maxLen) (h2 : wf67 l1) (h3 : l2.length ≤ maxLen) (h4 : ∀ x ∈ l2, (Lit.int .i64 x).wf = true) : ∃ k, columbariumlaw15_VaultCrashes.f k a0 l1 l2 = some true := by
  obtain ⟨p, hp, p0, p1⟩ := pick15 (i64_of h0) (n := 9) (by omega) (by omega)
  obtain ⟨n, hn⟩ : ∃ n : Nat, 4 + p = n := ⟨(4 + p).toNat, by omega⟩
  obtain ⟨k, hk⟩ : ∃ k : Nat, 100000 < k := ⟨100001, by omega⟩
  obtain ⟨su, hf, V⟩ := format_ok (n := n) (by omega) (by omega) (k := k) (by omega)
  refine ⟨k, ?_⟩
  unfold columbariumlaw15_VaultCrashes.f
  rw [show columbariumlaw15_awake.f = some true from rfl, Option.bind_some, hp, Option.bind_some, show wrap64 (4 + p) = (n : Int) by unfold wrap64; omega, rnew_eq (n : Int) (by omega), Option.bind_some, show newB (n : Int) = (List.replicate n Pr.blank, [], 0) by unfold newB; rw [if_pos (by omega), Int.toNat_natCast], hf, Option.bind_some]
  simp only [if_true]
  exact crashes_l0 (fun x hx => ⟨i64_of (h2 x hx).1, i64_of (h2 x hx).2.1, i64_of (h2 x hx).2.2⟩) (fun x hx => i64_of (h4 x hx)) (min l1.length 8) 0 k su 0 0 0 ⟨#[]⟩ V (by omega) (by omega) (by omega) (by omega) (by omega)
end Go.Proofs.Ytcfinlmocgbnbaa.Pure
end
