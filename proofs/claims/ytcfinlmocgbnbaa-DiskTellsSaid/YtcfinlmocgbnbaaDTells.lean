/-
  Several texts of this seat, laid together (wip/tools/merge.py). No condition but the ones that each lemma names.
-/
import Derived.Test.YtcfinlmocgbnbaaDisk
import Derived.Test.YtcfinlmocgbnbaaPrFcolumbariumref14Do
import Derived.Test.YtcfinlmocgbnbaaPrFcolumbariumref14Read
import Derived.Test.YtcfinlmocgbnbaaPrFcolumbariumref14Crash
import Derived.Test.YtcfinlmocgbnbaaMref
import Derived.Test.YtcfinlmocgbnbaaXBase
import Derived.WalkKit
import Derived.Lib.Hide
import Derived.Test.YtcfinlmocgbnbaaPrFcolumbariumlaw14awake
section
set_option linter.unusedVariables false
set_option linter.unusedSimpArgs false
namespace Go.Proofs.Ytcfinlmocgbnbaa.Pr
open Go.RowKit Go.Proofs.YtcfinlmocgbnbaaW.PrintWords Go.Proofs.YtcfinlmocgbnbaaW.PrintLast Go.Proofs.YtcfinlmocgbnbaaW.PrintMore
theorem wr_r (i : Nat) (h : i < 1000000) : wrap64 ((i : Int) + 1) = ((i + 1 : Nat) : Int) := by unfold wrap64; omega
theorem rd24_r {l : List S24} {i : Nat} (hi : i < l.length) : rd_T24 l i = l[i] := by unfold rd_T24; simp [hi]
theorem rdS_r {l : List ByteArray} {i : Nat} (hi : i < l.length) : rdOf ByteArray.empty l i = l[i] := by unfold rdOf; simp [hi]
theorem may_eq (m : S24) (n : Int) : columbariumref14_may.f m.f0 m.f1 m.f2 n = some (!oddB n m) := by
  obtain ⟨f0, f1, f2⟩ := m
  unfold columbariumref14_may.f oddB
  cases f0
  · simp only [Bool.false_eq_true, if_false]
    by_cases h1 : f1 ≥ 0
    · by_cases h2 : f1 < n
      · rw [if_pos h1, if_pos h2]
        have e1 : decide (f1 < 0) = false := by simp; omega
        have e2 : decide (f1 ≥ n) = false := by simp; omega
        rw [e1, e2]
        by_cases h3 : (f2.size : Int) = 64 <;> simp [h3]
      · rw [if_pos h1, if_neg h2]
        have e2 : decide (f1 ≥ n) = true := by simp; omega
        rw [e2]
        simp
    · rw [if_neg h1]
      have e1 : decide (f1 < 0) = true := by simp; omega
      rw [e1]
      simp
  · simp only [if_true]
    by_cases h1 : f1 = 0
    · rw [if_pos h1]
      have := str_eq f2 ⟨#[]⟩
      rw [show (⟨#[]⟩ : ByteArray).toList = ([] : List UInt8) from by rw [ByteArray.toList_eq]] at this
      rw [this]
      by_cases h2 : f2 = ⟨#[]⟩ <;> simp [h1, h2]
    · rw [if_neg h1]
      simp [h1]
def badB (n : Int) (m : S24) : Bool := syncB m || oddB n m
theorem any_bad (n : Int) : ∀ so : List S24, (!(so.any syncB) && !(so.any (oddB n))) = !(so.any (badB n))
  | [] => rfl
  | m :: so => by
    simp only [List.any_cons]
    have := any_bad n so
    unfold badB at this ⊢
    cases syncB m <;> cases oddB n m <;> simp_all
theorem rright_l1 (su : List ByteArray) (so : List S24) (hz : so.length ≤ 100000) : ∀ (d i k : Nat), i + d = so.length → d < k → columbariumref14_Right.l1 k i su so = some (!((so.drop i).any (badB su.length)))
  | 0, i, k, h, hk => by
    obtain ⟨k, rfl⟩ : ∃ m, k = m + 1 := ⟨k - 1, by omega⟩
    simp only [columbariumref14_Right.l1]
    rw [if_neg (by omega), List.drop_eq_nil_of_le (by omega)]
    rfl
  | d + 1, i, k, h, hk => by
    obtain ⟨k, rfl⟩ : ∃ m, k = m + 1 := ⟨k - 1, by omega⟩
    have hi : i < so.length := by omega
    simp only [columbariumref14_Right.l1]
    rw [if_pos (by omega), if_pos (by omega), rd24_r hi, may_eq, Option.bind_some, wr_r i (by omega), rright_l1 su so hz d (i + 1) k (by omega) (by omega), List.drop_eq_getElem_cons hi, List.any_cons]
    have e : badB su.length so[i] = (so[i].f0 || oddB su.length so[i]) := rfl
    rw [e]
    cases so[i].f0 <;> cases oddB su.length so[i] <;> simp
theorem rright_l0 (su : List ByteArray) (so : List S24) (hz : so.length ≤ 100000) (hz2 : su.length ≤ 100000) : ∀ (d i k : Nat), i + d = su.length → d + so.length + 1 < k → columbariumref14_Right.l0 k i su so = some (!((su.drop i).any shortB) && !(so.any (badB su.length)))
  | 0, i, k, h, hk => by
    obtain ⟨k, rfl⟩ : ∃ m, k = m + 1 := ⟨k - 1, by omega⟩
    simp only [columbariumref14_Right.l0]
    rw [if_neg (by omega), List.drop_eq_nil_of_le (by omega)]
    have := rright_l1 su so hz so.length 0 k (by omega) (by omega)
    rw [List.drop_zero] at this
    exact this
  | d + 1, i, k, h, hk => by
    obtain ⟨k, rfl⟩ : ∃ m, k = m + 1 := ⟨k - 1, by omega⟩
    have hi : i < su.length := by omega
    simp only [columbariumref14_Right.l0]
    rw [if_pos (by omega), if_pos (by omega), rdS_r hi, wr_r i (by omega), rright_l0 su so hz hz2 d (i + 1) k (by omega) (by omega), List.drop_eq_getElem_cons hi, List.any_cons]
    have e : shortB su[i] = decide ((su[i].size : Int) ≠ 64) := rfl
    rw [e]
    by_cases h3 : (su[i].size : Int) = 64 <;> simp [h3]
theorem rright_eq (su : List ByteArray) (so : List S24) {k : Nat} (hk : 4000 < k) : columbariumref14_Right.f k su so = some (rightB su so) := by
  obtain ⟨k, rfl⟩ : ∃ m, k = m + 1 := ⟨k - 1, by omega⟩
  unfold columbariumref14_Right.f rightB
  rw [any_bad]
  by_cases h1 : (su.length : Int) < 1
  · rw [if_pos h1, show decide ((su.length : Int) ≥ 1) = false by simp; omega]
    simp [columbariumref14_Right.j0]
  · rw [if_neg h1, show decide ((su.length : Int) ≥ 1) = true by simp; omega]
    by_cases h2 : (su.length : Int) > 400
    · rw [if_pos h2, show decide ((su.length : Int) ≤ 400) = false by simp; omega]
      simp [columbariumref14_Right.j0]
    · rw [if_neg h2, show decide ((su.length : Int) ≤ 400) = true by simp; omega]
      by_cases h3 : (so.length : Int) > 3000
      · rw [show decide ((so.length : Int) > 3000) = true by simp; omega, show decide ((so.length : Int) ≤ 3000) = false by simp; omega]
        simp [columbariumref14_Right.j0]
      · rw [show decide ((so.length : Int) > 3000) = false by simp; omega, show decide ((so.length : Int) ≤ 3000) = true by simp; omega]
        simp only [columbariumref14_Right.j0, Bool.false_eq_true, if_false]
        have := rright_l0 su so (by omega) (by omega) su.length 0 k (by omega) (by omega)
        rw [List.drop_zero] at this
        simpa using this
theorem rown_eq {su : List ByteArray} {so : List S24} (h1 : su.length < 1000000) (h2 : so.length < 1000000) : columbariumref14_Own.f su so = some (su, so) := by
  unfold columbariumref14_Own.f
  rw [if_pos (by simp; omega), if_pos (by simp; omega)]
  rfl
theorem blank_r : strOfNums (List.replicate 64 0) = blank := by rfl
theorem rnew_l0 (n : Nat) (hn : n ≤ 400) : ∀ (d i k : Nat), i + d = n → d < k → columbariumref14_New.l0 k n i (List.replicate i blank) = some (List.replicate n blank, [], 0)
  | 0, i, k, h, hk => by
    obtain ⟨k, rfl⟩ : ∃ m, k = m + 1 := ⟨k - 1, by omega⟩
    obtain rfl : i = n := by omega
    simp only [columbariumref14_New.l0]
    rw [if_neg (by omega)]
  | d + 1, i, k, h, hk => by
    obtain ⟨k, rfl⟩ : ∃ m, k = m + 1 := ⟨k - 1, by omega⟩
    simp only [columbariumref14_New.l0]
    rw [if_pos (by omega), if_pos (by omega), if_pos (by simp; omega), wr_r i (by omega), blank_r, ← List.replicate_succ']
    exact rnew_l0 n hn d (i + 1) k (by omega) (by omega)
theorem rnew_eq (n : Int) {k : Nat} (hk : 500 < k) : columbariumref14_New.f k n = some (newB n) := by
  obtain ⟨k, rfl⟩ : ∃ m, k = m + 1 := ⟨k - 1, by omega⟩
  unfold columbariumref14_New.f newB
  by_cases h1 : n < 1
  · rw [if_pos h1, if_neg (by omega)]
    simp [columbariumref14_New.j0]
  · rw [if_neg h1]
    by_cases h2 : n > 400
    · rw [if_neg (by omega), show decide (n > 400) = true by simp; omega]
      simp [columbariumref14_New.j0]
    · rw [if_pos (by omega), show decide (n > 400) = false by simp; omega]
      simp only [columbariumref14_New.j0, Bool.false_eq_true, if_false]
      obtain ⟨m, rfl⟩ : ∃ m : Nat, n = m := ⟨n.toNat, by omega⟩
      exact rnew_l0 m (by omega) m 0 k (by omega) (by omega)
theorem last_r (su : List ByteArray) (b : Int) : ∀ (so : List S24) (o : ByteArray), (match so.reverse.find? (fun m => decide (m.f1 = b)) with | some m => m.f2 | none => o) = so.foldl (fun o m => if m.f1 = b then m.f2 else o) o
  | [], o => rfl
  | m :: so, o => by
    rw [List.foldl_cons, ← last_r su b so, List.reverse_cons, List.find?_append]
    cases so.reverse.find? (fun m => decide (m.f1 = b)) with
    | some x => rfl
    | none => by_cases h : m.f1 = b <;> simp [h]
theorem rread_l0 (su : List ByteArray) (so : List S24) (b : Int) (hz : so.length ≤ 100000) : ∀ (d i k : Nat) (o : ByteArray), i + d = so.length → d < k → columbariumref14_Read.l0 k b o i su so = some ((so.drop i).foldl (fun o m => if m.f1 = b then m.f2 else o) o, 0)
  | 0, i, k, o, h, hk => by
    obtain ⟨k, rfl⟩ : ∃ m, k = m + 1 := ⟨k - 1, by omega⟩
    simp only [columbariumref14_Read.l0]
    rw [if_neg (by omega), List.drop_eq_nil_of_le (by omega)]
    rfl
  | d + 1, i, k, o, h, hk => by
    obtain ⟨k, rfl⟩ : ∃ m, k = m + 1 := ⟨k - 1, by omega⟩
    have hi : i < so.length := by omega
    simp only [columbariumref14_Read.l0]
    rw [if_pos (by omega), if_pos (by omega), rd24_r hi, wr_r i (by omega), List.drop_eq_getElem_cons hi, List.foldl_cons]
    by_cases h1 : so[i].f1 = b
    · rw [if_pos h1, if_pos h1]
      exact rread_l0 su so b hz d (i + 1) k _ (by omega) (by omega)
    · rw [if_neg h1, if_neg h1]
      exact rread_l0 su so b hz d (i + 1) k _ (by omega) (by omega)
theorem rread_eq (su : List ByteArray) (so : List S24) (b : Int) {k : Nat} (hk : 4000 < k) : columbariumref14_Read.f k su so b = some (readB su so b) := by
  unfold columbariumref14_Read.f readB
  rw [rright_eq su so hk, Option.bind_some]
  obtain ⟨k, rfl⟩ : ∃ m, k = m + 1 := ⟨k - 1, by omega⟩
  by_cases hr : rightB su so = true
  · have R := right_iff.1 hr
    have := R.few
    have := R.most
    rw [if_pos hr]
    by_cases h1 : b < 0
    · rw [if_pos h1, if_neg (by omega)]
      simp [columbariumref14_Read.j0]
    · rw [if_neg h1]
      by_cases h2 : b ≥ su.length
      · rw [if_neg (by omega), show decide (b ≥ (su.length : Int)) = true by simp; omega]
        simp [columbariumref14_Read.j0]
      · rw [if_pos (by refine ⟨hr, ?_, ?_⟩ <;> omega), show decide (b ≥ (su.length : Int)) = false by simp; omega]
        simp only [columbariumref14_Read.j0, Bool.false_eq_true, if_false]
        rw [if_pos (by omega), if_pos (by omega)]
        have := rread_l0 su so b (by omega) so.length 0 k (rdOf ByteArray.empty su b) (by omega) (by omega)
        rw [List.drop_zero, ← last_r su b] at this
        exact this
  · rw [if_neg hr, if_neg (by rintro ⟨h, _⟩; exact hr h)]
    simp [columbariumref14_Read.j0]
theorem rwhole_eq (n : Nat) (hn : n ≤ 100000) : ∀ (d i k : Nat), i + d = n → d < k → columbariumref14_whole.l0 k n (List.replicate i 64) i = some (List.replicate n 64)
  | 0, i, k, h, hk => by
    obtain ⟨k, rfl⟩ : ∃ m, k = m + 1 := ⟨k - 1, by omega⟩
    obtain rfl : i = n := by omega
    simp only [columbariumref14_whole.l0]
    rw [if_neg (by omega)]
  | d + 1, i, k, h, hk => by
    obtain ⟨k, rfl⟩ : ∃ m, k = m + 1 := ⟨k - 1, by omega⟩
    simp only [columbariumref14_whole.l0]
    rw [if_pos (by omega), if_pos (by simp; omega), wr_r i (by omega), ← List.replicate_succ']
    exact rwhole_eq n hn d (i + 1) k (by omega) (by omega)
theorem cutOf_mx (cuts : List Int) (i : Nat) (h : (i : Int) < cuts.length) : mx 0 (mn (rd cuts i) 64) = cutOf cuts i := by
  rw [show cutOf cuts i = min (max (rd cuts i) 0) 64 from by unfold cutOf; rw [if_neg (by omega)]]
  unfold mx mn
  split <;> split <;> omega
theorem cutOf_none (cuts : List Int) (i : Nat) (h : ¬ (i : Int) < cuts.length) : cutOf cuts i = 0 := by
  unfold cutOf
  rw [if_pos (by omega)]
theorem rfall_l0 {su0 : List ByteArray} {so : List S24} {cuts : List Int} (hz : so.length ≤ 100000) : ∀ (d i k : Nat) (su : List ByteArray), i + d = so.length → d < k → Fits su so → columbariumref14_fallen.l0 k cuts i su0 so su = some (fall su (so.drop i) (cutOf cuts) i, [])
  | 0, i, k, su, h, hk, hf => by
    obtain ⟨k, rfl⟩ : ∃ m, k = m + 1 := ⟨k - 1, by omega⟩
    simp only [columbariumref14_fallen.l0]
    rw [if_neg (by omega), List.drop_eq_nil_of_le (by omega)]
    rfl
  | d + 1, i, k, su, h, hk, hf => by
    obtain ⟨k, rfl⟩ : ∃ m, k = m + 1 := ⟨k - 1, by omega⟩
    have hi : i < so.length := by omega
    obtain ⟨m0, m1⟩ := hf.blk _ (List.getElem_mem hi)
    have hm := hf.byt _ (List.getElem_mem hi)
    have hs := rdS_size hf.sur m0 m1
    have hc := cutOf_range cuts i
    have hF : Fits (put1 su so[i] (cutOf cuts i)) so := ⟨fun x hx => by rw [put1_len]; exact hf.blk x hx, hf.byt, put1_sur hf.sur ⟨m0, m1⟩ hm hc.1 hc.2⟩
    have ih := rfall_l0 (su0 := su0) (cuts := cuts) hz d (i + 1) k _ (by omega) (by omega) hF
    simp only [columbariumref14_fallen.l0]
    rw [if_pos (by omega), if_pos (by omega), rd24_r hi, wr_r i (by omega), List.drop_eq_getElem_cons hi]
    have e1 : (so[i].f2.extract 0 (cutOf cuts i).toNat).size + ((rdOf ByteArray.empty su so[i].f1).extract (cutOf cuts i).toNat (rdOf ByteArray.empty su so[i].f1).size).size ≤ 9223372036854775807 := by
      rw [ByteArray.size_extract, ByteArray.size_extract]
      omega
    by_cases h1 : (i : Int) < cuts.length
    · rw [if_pos h1, cutOf_mx cuts i h1, if_pos (by omega), if_pos (by omega), if_pos m0, if_pos m1, if_pos (by omega), if_pos e1]
      exact ih
    · have h2 := cutOf_none cuts i h1
      rw [h2] at e1 ih
      rw [show (0 : Int).toNat = 0 from rfl] at e1
      rw [if_neg h1, if_pos (by omega), if_pos (by omega), if_pos m0, if_pos m1, if_pos (by omega), if_pos e1]
      show _ = some (fall (put1 su so[i] (cutOf cuts i)) (so.drop (i + 1)) (cutOf cuts) (i + 1), [])
      rw [h2]
      exact ih
theorem rfall_eq {su : List ByteArray} {so : List S24} (hf : Fits su so) (cuts : List Int) (h1 : su.length < 1000000) (hz : so.length ≤ 100000) {k : Nat} (hk : so.length < k) : columbariumref14_fallen.f k su so cuts = some (fall su so (cutOf cuts) 0, []) := by
  unfold columbariumref14_fallen.f
  rw [if_pos (by simp; omega), List.nil_append]
  have := rfall_l0 (su0 := su) (cuts := cuts) hz so.length 0 k su (by omega) hk hf
  rw [List.drop_zero] at this
  exact this
theorem rcrash_eq {su : List ByteArray} {so : List S24} (cuts : List Int) (h1 : su.length < 1000000) (hz : so.length ≤ 100000) {k : Nat} (hk : 4000 < k) : columbariumref14_Crash.f k su so cuts = some (crashB su so cuts) := by
  unfold columbariumref14_Crash.f crashB
  rw [rright_eq su so hk, Option.bind_some]
  by_cases hr : rightB su so = true
  · have R := right_iff.1 hr
    have := R.few
    rw [if_pos hr, if_pos hr, rfall_eq R.fits cuts h1 hz (by omega), Option.bind_some]
  · rw [if_neg hr, if_neg hr, rown_eq h1 (by omega), Option.bind_some]
theorem fall_64 (so : List S24) (su : List ByteArray) (n : Nat) (h : so.length ≤ n) : fall su so (cutOf (List.replicate n 64)) 0 = fall su so (fun _ => 64) 0 := by
  have : ∀ (so : List S24) (su : List ByteArray) (i : Nat), i + so.length ≤ n → fall su so (cutOf (List.replicate n 64)) i = fall su so (fun _ => 64) i := by
    intro so
    induction so with
    | nil => intro su i h; rfl
    | cons m so ih =>
      intro su i h
      simp only [List.length_cons] at h
      simp only [fall]
      have e : cutOf (List.replicate n 64) i = 64 := by
        unfold cutOf rd
        rw [if_neg (by simp; omega)]
        simp [List.getD_eq_getElem?_getD, List.getElem?_replicate, show i < n by omega]
        omega
      rw [e]
      exact ih _ (i + 1) (by omega)
  exact this so su 0 (by omega)
theorem rdo_l0 {l : List S24} (hl : l.length ≤ 100000) {su : List ByteArray} {so : List S24} (h1 : su.length < 1000000) (h2 : so.length < 1000000) : ∀ (d i k : Nat), i + d = l.length →
    columbariumref14_Do.l0 (k + d + 1) l i su so = if (l.drop i).any (oddB su.length) = true then some (su, so, 1) else columbariumref14_Do.l1 k l 0 su so su so
  | 0, i, k, h => by
    simp only [Nat.add_zero, columbariumref14_Do.l0]
    rw [if_neg (by omega), List.drop_eq_nil_of_le (by omega), rown_eq h1 h2, Option.bind_some]
    rfl
  | d + 1, i, k, h => by
    have hi : i < l.length := by omega
    obtain ⟨q, hq⟩ : ∃ q, q = k + d + 1 := ⟨_, rfl⟩
    rw [show k + (d + 1) + 1 = q + 1 by omega]
    simp only [columbariumref14_Do.l0]
    rw [if_pos (by omega), if_pos (by omega), rd24_r hi, may_eq, Option.bind_some, wr_r i (by omega), hq, rdo_l0 hl h1 h2 d (i + 1) k (by omega), List.drop_eq_getElem_cons hi, List.any_cons, rown_eq h1 h2, Option.bind_some]
    cases oddB su.length l[i] <;> simp
theorem rdo_l1 {l : List S24} (hl : l.length ≤ 1000) {su0 : List ByteArray} {so0 : List S24} (h1 : su0.length < 1000000) (h2 : so0.length < 1000000) (hok : ∀ m ∈ l, oddB su0.length m = false) : ∀ (d i k : Nat) (su : List ByteArray) (so : List S24), i + d = l.length → d + 4000 < k → DoInv su0.length su so →
    columbariumref14_Do.l1 k l i su0 so0 su so = some (doL su0 so0 su so (l.drop i))
  | 0, i, k, su, so, h, hk, hv => by
    obtain ⟨k, rfl⟩ : ∃ m, k = m + 1 := ⟨k - 1, by omega⟩
    simp only [columbariumref14_Do.l1]
    rw [if_neg (by omega), List.drop_eq_nil_of_le (by omega)]
    rfl
  | d + 1, i, k, su, so, h, hk, hv => by
    obtain ⟨k, rfl⟩ : ∃ m, k = m + 1 := ⟨k - 1, by omega⟩
    have hi : i < l.length := by omega
    have hm := hok _ (List.getElem_mem hi)
    have hlen := hv.len
    have hfew := hv.few
    simp only [columbariumref14_Do.l1]
    rw [if_pos (by omega), if_pos (by omega), rd24_r hi, wr_r i (by omega), List.drop_eq_getElem_cons hi]
    simp only [doL]
    cases hs : l[i].f0
    · simp only [Bool.false_eq_true, if_false]
      by_cases hf : (so.length : Int) = 3000
      · rw [if_pos (by omega), if_pos hf, rown_eq h1 h2, Option.bind_some]
      · rw [if_neg (by omega), if_neg hf, if_pos (by omega)]
        have heta : (⟨false, l[i].f1, l[i].f2⟩ : S24) = l[i] := by rw [← hs]
        rw [heta]
        exact rdo_l1 hl h1 h2 hok d (i + 1) k su _ (by omega) (by omega) (inv_app hv hm hs (by omega))
    · simp only [if_true]
      have hw : columbariumref14_whole.f k (so.length : Int) = some (List.replicate so.length 64) := rwhole_eq so.length (by omega) so.length 0 k (by omega) (by omega)
      rw [hw, Option.bind_some, rfall_eq hv.fits _ (by omega) (by omega) (by omega), Option.bind_some, fall_64 so su so.length (by omega)]
      refine rdo_l1 hl h1 h2 hok d (i + 1) k _ _ (by omega) (by omega) ⟨by rw [fall_len]; exact hlen, by simp, ⟨(fun m hm => by cases hm), (fun m hm => by cases hm), fall_sur so su _ 0 hv.fits (fun _ => by omega)⟩⟩
theorem rdo_eq {su : List ByteArray} {so : List S24} {l : List S24} (hl : l.length ≤ 1000) (h1 : su.length < 1000000) (h2 : so.length < 1000000) {k : Nat} (hk : 10000 < k) : columbariumref14_Do.f k su so l = some (doB su so l) := by
  unfold columbariumref14_Do.f doB
  rw [rright_eq su so (by omega), Option.bind_some]
  by_cases hr : rightB su so = true
  · have R := right_iff.1 hr
    rw [if_pos hr]
    obtain ⟨q, rfl⟩ : ∃ q, k = q + l.length + 1 := ⟨k - l.length - 1, by omega⟩
    have := rdo_l0 (l := l) (by omega) h1 h2 l.length 0 q (by omega)
    rw [List.drop_zero] at this
    refine Eq.trans this ?_
    cases ha : l.any (oddB su.length)
    · rw [if_neg (by simp), if_pos ⟨hr, rfl⟩]
      have := rdo_l1 (l := l) hl (su0 := su) (so0 := so) h1 h2 (fun m hm => by rw [List.any_eq_false] at ha; simpa using ha m hm) l.length 0 q su so (by omega) (by omega) ⟨rfl, R.few, R.fits⟩
      rw [List.drop_zero] at this
      exact this
    · rw [if_pos rfl, if_neg (by rintro ⟨_, h⟩; cases h)]
  · rw [if_neg hr, if_neg (by rintro ⟨h, _⟩; exact hr h), rown_eq h1 h2, Option.bind_some]
end Go.Proofs.Ytcfinlmocgbnbaa.Pr
end

section
set_option linter.unusedVariables false
namespace Go.Proofs.Ytcfinlmocgbnbaa.Pr
theorem doL_len {su0 : List ByteArray} {so0 : List S24} : ∀ (l : List S24) (su : List ByteArray) (so : List S24), su.length = su0.length → (doL su0 so0 su so l).1.length = su0.length ∧ (doL su0 so0 su so l).2.1.length ≤ so0.length + so.length + l.length
  | [], su, so, h => ⟨h, by simp only [doL]; omega⟩
  | m :: l, su, so, h => by
    simp only [doL]
    split
    · have := doL_len (su0 := su0) (so0 := so0) l (fall su so (fun _ => 64) 0) [] (by rw [fall_len]; exact h)
      simp only [List.length_cons, List.length_nil] at this ⊢
      exact ⟨this.1, by omega⟩
    · split
      · exact ⟨rfl, by simp only [List.length_cons]; omega⟩
      · have := doL_len (su0 := su0) (so0 := so0) l su (so ++ [m]) h
        simp only [List.length_cons, List.length_append, List.length_nil] at this ⊢
        exact ⟨this.1, by omega⟩
theorem doB_len (su : List ByteArray) (so l : List S24) : (doB su so l).1.length = su.length ∧ (doB su so l).2.1.length ≤ 2 * so.length + l.length := by
  unfold doB
  split
  · have := doL_len (su0 := su) (so0 := so) l su so rfl
    exact ⟨this.1, by omega⟩
  · exact ⟨rfl, by dsimp only; omega⟩
theorem crashB_len (su : List ByteArray) (so : List S24) (cuts : List Int) : (crashB su so cuts).1.length = su.length ∧ (crashB su so cuts).2.1.length ≤ so.length := by
  unfold crashB
  split
  · exact ⟨fall_len .., by simp⟩
  · exact ⟨rfl, Nat.le_refl _⟩
end Go.Proofs.Ytcfinlmocgbnbaa.Pr
end

section
namespace Go.Proofs.Ytcfinlmocgbnbaa.Pr
open Go.RowKit Go.Shelf Go.Proofs.Ytcfinlmocgbnbaa.XB Go.Proofs.YtcfinlmocgbnbaaW.PrintWords
attribute [local go_sem] Oper.semAt_some
set_option linter.unusedVariables false
set_option linter.unusedSimpArgs false
set_option maxRecDepth 100000
def allLoops : Code → List Code
  | .loop c => c :: allLoops c
  | .seq a b => allLoops a ++ allLoops b
  | .block _ c => allLoops c
  | .scope c => allLoops c
  | .cond _ a b => allLoops a ++ allLoops b
  | _ => []
noncomputable def dt1body : Code := (Try.f3.body.map fun c => (allLoops c).getD 1 .skip).getD .skip
set_option maxHeartbeats 8000000 in
theorem dt1_round {K : Act → World → Prop} {Q : Exit → Act → World → Prop} (j g c gx : Nat) (hj : j < 4) (i : Int) {su : List ByteArray} {so : List S24} {A0 A1 : Option Addr} {c0 c1 : Nat} (wr : World)
    (hrow : wr.cell? ⟨g, j, none⟩ = some (.int .i64 i)) (hbx : wr.heap[gx]? = some (.cells #[.slice A0 su.length c0, .slice A1 so.length c1] 30 (0, 0)))
    (hsu : Kd.C Kd.string wr A0 su.length su) (hc0 : su.length ≤ c0) (hso : Kd.C k24 wr A1 so.length so) (hc1 : so.length ≤ c1)
    {p0 p1 p2 p3 p4 p5 p6 p7 p8 p9 p10 p11 p12 p13 p14 p15 p16 p17 p18 p19 p20 p21 p22 p24 p30 p31 p32 p33 p34 p35 p36 p37 p38 p39 p40 p41 p42 p43 p44 p45 p46 p47 p48 p49 p50 p51 p52 p53 p54 p55 p56 p57 p58 p59 p60 p61 p62 p63 p64 p65 p66 p67 p68 p69 p70 p71 p72 p73 p74 p75 p76 p77 p78 p79 p80 p81 p82 p83 p84 p85 p86 p87 p88 p89 p90 p91 p92 p93 p94 p95 p96 p97 p98 p99 p100 p101 p102 p103 p104 p105 p106 p107 p108 p109 p110 p111 p112 p113 p114 p115 p116 p117 p118 p119 p120 p121 p122 p123 p124 p125 p126 p154 p155 p156 p157 p158 p159 p160 p161 p162 p163 p164 p165 p166 p167 p168 p169 p170 p171 p172 p173 p174 p175 p176 p177 p178 p179 p180 p181 p182 p183 p184 p185 p186 p187 p188 p189 p190 p191 p192 p193 p194 p195 p196 p197 p198 p199 p200 p201 p202 p203 p204 p205 p206 p207 p208 p209 p210 p211 p212 p213 p214 p215 : Value} {u25 u26 u27 u28 u29 u130 u131 u132 u133 u134 u135 u136 u137 u138 u139 u140 u141 u142 u143 u144 u145 u146 u147 u148 u149 u150 u151 u152 u153 : Value}
    (hK : ∀ (v25 v26 v27 v28 v29 v130 v131 v132 v133 v134 v135 v136 v137 v138 v139 v140 v141 v142 v143 v144 v145 v146 v147 v148 v149 v150 v151 v152 v153 : Value) (W' : World), Below wr.heap.size wr W' → K ⟨#[p0, p1, p2, p3, p4, p5, p6, p7, p8, p9, p10, p11, p12, p13, p14, p15, p16, p17, p18, p19, p20, p21, p22, .pointer (some ⟨gx, 0, none⟩), p24, v25, v26, v27, v28, v29, p30, p31, p32, p33, p34, p35, p36, p37, p38, p39, p40, p41, p42, p43, p44, p45, p46, p47, p48, p49, p50, p51, p52, p53, p54, p55, p56, p57, p58, p59, p60, p61, p62, p63, p64, p65, p66, p67, p68, p69, p70, p71, p72, p73, p74, p75, p76, p77, p78, p79, p80, p81, p82, p83, p84, p85, p86, p87, p88, p89, p90, p91, p92, p93, p94, p95, p96, p97, p98, p99, p100, p101, p102, p103, p104, p105, p106, p107, p108, p109, p110, p111, p112, p113, p114, p115, p116, p117, p118, p119, p120, p121, p122, p123, p124, p125, p126, .slice (some ⟨g, 0, none⟩) 4 c, .int .i64 4, .int .i64 ((j : Int) + 1), v130, v131, v132, v133, v134, v135, v136, v137, v138, v139, v140, v141, v142, v143, v144, v145, v146, v147, v148, v149, v150, v151, v152, v153, p154, p155, p156, p157, p158, p159, p160, p161, p162, p163, p164, p165, p166, p167, p168, p169, p170, p171, p172, p173, p174, p175, p176, p177, p178, p179, p180, p181, p182, p183, p184, p185, p186, p187, p188, p189, p190, p191, p192, p193, p194, p195, p196, p197, p198, p199, p200, p201, p202, p203, p204, p205, p206, p207, p208, p209, p210, p211, p212, p213, p214, p215], []⟩ W') :
    Code.wp Try.prog dt1body (Exit.then K Q) ⟨#[p0, p1, p2, p3, p4, p5, p6, p7, p8, p9, p10, p11, p12, p13, p14, p15, p16, p17, p18, p19, p20, p21, p22, .pointer (some ⟨gx, 0, none⟩), p24, u25, u26, u27, u28, u29, p30, p31, p32, p33, p34, p35, p36, p37, p38, p39, p40, p41, p42, p43, p44, p45, p46, p47, p48, p49, p50, p51, p52, p53, p54, p55, p56, p57, p58, p59, p60, p61, p62, p63, p64, p65, p66, p67, p68, p69, p70, p71, p72, p73, p74, p75, p76, p77, p78, p79, p80, p81, p82, p83, p84, p85, p86, p87, p88, p89, p90, p91, p92, p93, p94, p95, p96, p97, p98, p99, p100, p101, p102, p103, p104, p105, p106, p107, p108, p109, p110, p111, p112, p113, p114, p115, p116, p117, p118, p119, p120, p121, p122, p123, p124, p125, p126, .slice (some ⟨g, 0, none⟩) 4 c, .int .i64 4, .int .i64 (j : Int), u130, u131, u132, u133, u134, u135, u136, u137, u138, u139, u140, u141, u142, u143, u144, u145, u146, u147, u148, u149, u150, u151, u152, u153, p154, p155, p156, p157, p158, p159, p160, p161, p162, p163, p164, p165, p166, p167, p168, p169, p170, p171, p172, p173, p174, p175, p176, p177, p178, p179, p180, p181, p182, p183, p184, p185, p186, p187, p188, p189, p190, p191, p192, p193, p194, p195, p196, p197, p198, p199, p200, p201, p202, p203, p204, p205, p206, p207, p208, p209, p210, p211, p212, p213, p214, p215], []⟩ wr := by
  conv => arg 2; whnf
  have HK := Lib.hid hK
  have j0 : (j : Int) < 4 := by omega
  have HB : Hid (Below wr.heap.size wr wr) := Lib.hid (Below.refl _ _)
  have BX := Lib.hid hbx
  have bx_0 := (blk_cell hbx 0).trans rfl
  have bx_1 := (blk_cell hbx 1).trans rfl
  have hR : ∀ W, Below wr.heap.size wr W → Calls Try.prog 22 #[.agg #[.slice A0 su.length c0, .slice A1 so.length c1], .int .i64 i] W fun e w' => e = .returned (.tuple #[.string (readB su so i).1, .int .i64 (readB su so i).2]) ∧ Below W.heap.size W w' := fun W hb => disk_Read.calls _ _ _ _ _ _ _ _ _ _ (Kd.C_below hsu hb) hc0 (Kd.C_below hso hb) hc1 rfl
  have hS : ∀ W, Below wr.heap.size wr W → Calls Try.prog 23 #[.agg #[.slice A0 su.length c0, .slice A1 so.length c1], .int .i64 i] W fun e w' => e = .returned (.tuple #[.string (readB su so i).1, .int .i64 (readB su so i).2]) ∧ Below W.heap.size W w' := fun W hb => columbariumref14_Read.calls 4001 _ _ _ _ _ _ _ _ _ _ (Kd.C_below hsu hb) hc0 (Kd.C_below hso hb) hc1 (rread_eq su so i (by omega))
  have HR := Lib.hid hR
  have HS := Lib.hid hS
  clear hR hS hK hbx hsu hso hc0 hc1
  generalize readB su so i = rr at *
  obtain ⟨rs, re⟩ := rr
  go_wp2_with (first | (go_at_call 22; with_reducible refine (HR.out _ HB.out).mono ?_; rintro e W2 ⟨rfl, hb⟩; have W2B := Lib.hid (HB.out.trans (hb.mono HB.out.size)); have BXW2 := Lib.hid (blk_same BX.out hb); have bxW2_0 := (blk_cell BXW2.out 0).trans rfl; have bxW2_1 := (blk_cell BXW2.out 1).trans rfl; clear hb) | (go_at_call 23; with_reducible refine (HS.out _ W2B.out).mono ?_; rintro e W3 ⟨rfl, hb⟩; have W3B := Lib.hid (W2B.out.trans (hb.mono W2B.out.size)); have BXW3 := Lib.hid (blk_same BXW2.out hb); have bxW3_0 := (blk_cell BXW3.out 0).trans rfl; have bxW3_1 := (blk_cell BXW3.out 1).trans rfl; clear hb))
  exact HK.out _ _ _ _ _ _ _ _ _ _ _ _ _ _ _ _ _ _ _ _ _ _ _ _ _ _ _ _ _ _ W3B.out
end Go.Proofs.Ytcfinlmocgbnbaa.Pr
end

section
namespace Go.Proofs.Ytcfinlmocgbnbaa.Pr
open Go.RowKit Go.Shelf Go.Proofs.Ytcfinlmocgbnbaa.XB Go.Proofs.YtcfinlmocgbnbaaW.PrintWords
attribute [local go_sem] Oper.semAt_some
set_option linter.unusedVariables false
set_option linter.unusedSimpArgs false
set_option maxRecDepth 100000
theorem rsame_eq {su : List ByteArray} {so : List S24} (h1 : su.length ≤ 100000) (h2 : so.length ≤ 100000) : columbariumref14_Same.f 200010 su so su so = some true := by
  rw [show 200010 = 200009 + 1 from rfl]
  generalize hk : 200009 = k
  unfold columbariumref14_Same.f
  rw [if_pos rfl]
  simp only [columbariumref14_Same.j0]
  rw [if_neg (by simp)]
  exact same_l0 su so su.length 0 k (by omega) (by omega) (by omega) (by omega)
noncomputable def dt2body : Code := (Try.f3.body.map fun c => (allLoops c).getD 2 .skip).getD .skip
set_option maxHeartbeats 8000000 in
theorem dt2_round {K : Act → World → Prop} {Q : Exit → Act → World → Prop} (j g c gx : Nat) (hj : j < 3) {su : List ByteArray} {so l : List S24} {A0 A1 B : Option Addr} {c0 c1 cb : Nat} (wr : World)
    (hrow : wr.cell? ⟨g, j, none⟩ = some (.slice B l.length cb)) (hbx : wr.heap[gx]? = some (.cells #[.slice A0 su.length c0, .slice A1 so.length c1] 30 (0, 0)))
    (hsu : Kd.C Kd.string wr A0 su.length su) (hc0 : su.length ≤ c0) (hso : Kd.C k24 wr A1 so.length so) (hc1 : so.length ≤ c1) (hml : Kd.C k24 wr B l.length l) (hcb : l.length ≤ cb)
    (hl : l.length ≤ 1000) (h1 : su.length < 1000000) (h2 : so.length < 1000000) (hz1 : (doB su so l).1.length ≤ 100000) (hz2 : (doB su so l).2.1.length ≤ 100000)
    {p0 p1 p2 p3 p4 p5 p6 p7 p8 p9 p10 p11 p12 p13 p14 p15 p16 p17 p18 p19 p20 p21 p22 p24 p25 p26 p27 p28 p29 p30 p36 p37 p38 p39 p40 p41 p42 p43 p44 p45 p46 p47 p48 p49 p50 p51 p52 p53 p54 p55 p56 p57 p58 p59 p60 p61 p62 p63 p64 p65 p66 p67 p68 p69 p70 p71 p72 p73 p74 p75 p76 p77 p78 p79 p80 p81 p82 p83 p84 p85 p86 p87 p88 p89 p90 p91 p92 p93 p94 p95 p96 p97 p98 p99 p100 p101 p102 p103 p104 p105 p106 p107 p108 p109 p110 p111 p112 p113 p114 p115 p116 p117 p118 p119 p120 p121 p122 p123 p124 p125 p126 p127 p128 p129 p130 p131 p132 p133 p134 p135 p136 p137 p138 p139 p140 p141 p142 p143 p144 p145 p146 p147 p148 p149 p150 p151 p152 p153 p154 p155 p156 p157 p158 p159 p160 p161 p162 p163 p164 p193 p194 p195 p196 p197 p198 p199 p200 p201 p202 p203 p204 p205 p206 p207 p208 p209 p210 p211 p212 p213 p214 p215 : Value} {u31 u32 u33 u34 u35 u168 u169 u170 u171 u172 u173 u174 u175 u176 u177 u178 u179 u180 u181 u182 u183 u184 u185 u186 u187 u188 u189 u190 u191 u192 : Value}
    (hK : ∀ (v31 v32 v33 v34 v35 v168 v169 v170 v171 v172 v173 v174 v175 v176 v177 v178 v179 v180 v181 v182 v183 v184 v185 v186 v187 v188 v189 v190 v191 v192 : Value) (W' : World), Below wr.heap.size wr W' → K ⟨#[p0, p1, p2, p3, p4, p5, p6, p7, p8, p9, p10, p11, p12, p13, p14, p15, p16, p17, p18, p19, p20, p21, p22, .pointer (some ⟨gx, 0, none⟩), p24, p25, p26, p27, p28, p29, p30, v31, v32, v33, v34, v35, p36, p37, p38, p39, p40, p41, p42, p43, p44, p45, p46, p47, p48, p49, p50, p51, p52, p53, p54, p55, p56, p57, p58, p59, p60, p61, p62, p63, p64, p65, p66, p67, p68, p69, p70, p71, p72, p73, p74, p75, p76, p77, p78, p79, p80, p81, p82, p83, p84, p85, p86, p87, p88, p89, p90, p91, p92, p93, p94, p95, p96, p97, p98, p99, p100, p101, p102, p103, p104, p105, p106, p107, p108, p109, p110, p111, p112, p113, p114, p115, p116, p117, p118, p119, p120, p121, p122, p123, p124, p125, p126, p127, p128, p129, p130, p131, p132, p133, p134, p135, p136, p137, p138, p139, p140, p141, p142, p143, p144, p145, p146, p147, p148, p149, p150, p151, p152, p153, p154, p155, p156, p157, p158, p159, p160, p161, p162, p163, p164, .slice (some ⟨g, 0, none⟩) 3 c, .int .i64 3, .int .i64 ((j : Int) + 1), v168, v169, v170, v171, v172, v173, v174, v175, v176, v177, v178, v179, v180, v181, v182, v183, v184, v185, v186, v187, v188, v189, v190, v191, v192, p193, p194, p195, p196, p197, p198, p199, p200, p201, p202, p203, p204, p205, p206, p207, p208, p209, p210, p211, p212, p213, p214, p215], []⟩ W') :
    Code.wp Try.prog dt2body (Exit.then K Q) ⟨#[p0, p1, p2, p3, p4, p5, p6, p7, p8, p9, p10, p11, p12, p13, p14, p15, p16, p17, p18, p19, p20, p21, p22, .pointer (some ⟨gx, 0, none⟩), p24, p25, p26, p27, p28, p29, p30, u31, u32, u33, u34, u35, p36, p37, p38, p39, p40, p41, p42, p43, p44, p45, p46, p47, p48, p49, p50, p51, p52, p53, p54, p55, p56, p57, p58, p59, p60, p61, p62, p63, p64, p65, p66, p67, p68, p69, p70, p71, p72, p73, p74, p75, p76, p77, p78, p79, p80, p81, p82, p83, p84, p85, p86, p87, p88, p89, p90, p91, p92, p93, p94, p95, p96, p97, p98, p99, p100, p101, p102, p103, p104, p105, p106, p107, p108, p109, p110, p111, p112, p113, p114, p115, p116, p117, p118, p119, p120, p121, p122, p123, p124, p125, p126, p127, p128, p129, p130, p131, p132, p133, p134, p135, p136, p137, p138, p139, p140, p141, p142, p143, p144, p145, p146, p147, p148, p149, p150, p151, p152, p153, p154, p155, p156, p157, p158, p159, p160, p161, p162, p163, p164, .slice (some ⟨g, 0, none⟩) 3 c, .int .i64 3, .int .i64 (j : Int), u168, u169, u170, u171, u172, u173, u174, u175, u176, u177, u178, u179, u180, u181, u182, u183, u184, u185, u186, u187, u188, u189, u190, u191, u192, p193, p194, p195, p196, p197, p198, p199, p200, p201, p202, p203, p204, p205, p206, p207, p208, p209, p210, p211, p212, p213, p214, p215], []⟩ wr := by
  conv => arg 2; whnf
  have HK := Lib.hid hK
  have j0 : (j : Int) < 3 := by omega
  have HB : Hid (Below wr.heap.size wr wr) := Lib.hid (Below.refl _ _)
  have BX := Lib.hid hbx
  have bx_0 := (blk_cell hbx 0).trans rfl
  have bx_1 := (blk_cell hbx 1).trans rfl
  have e1 : disk_Do.f su so l = some ((doB su so l).1, (doB su so l).2.1, (doB su so l).2.2) := by unfold disk_Do.f; rw [if_pos ⟨by omega, by omega⟩]
  have e2 : columbariumref14_Do.f 10001 su so l = some ((doB su so l).1, (doB su so l).2.1, (doB su so l).2.2) := rdo_eq hl h1 h2 (by omega)
  have hR := fun W (hb : Below wr.heap.size wr W) => disk_Do.calls _ _ _ _ _ _ _ _ _ _ _ _ W (Kd.C_below hsu hb) hc0 (Kd.C_below hso hb) hc1 (Kd.C_below hml hb) hcb e1
  have hS := fun W (hb : Below wr.heap.size wr W) => columbariumref14_Do.calls 10001 _ _ _ _ _ _ _ _ _ _ _ _ W (Kd.C_below hsu hb) hc0 (Kd.C_below hso hb) hc1 (Kd.C_below hml hb) hcb e2
  have hT := fun W A0 c0 A1 c1 B0 d0 B1 d1 (x0 : Kd.C Kd.string W A0 (doB su so l).1.length (doB su so l).1) (y0 : (doB su so l).1.length ≤ c0) (x1 : Kd.C k24 W A1 (doB su so l).2.1.length (doB su so l).2.1) (y1 : (doB su so l).2.1.length ≤ c1) (x2 : Kd.C Kd.string W B0 (doB su so l).1.length (doB su so l).1) (y2 : (doB su so l).1.length ≤ d0) (x3 : Kd.C k24 W B1 (doB su so l).2.1.length (doB su so l).2.1) (y3 : (doB su so l).2.1.length ≤ d1) => columbariumref14_Same.calls 200010 _ _ _ _ _ _ _ _ _ _ _ _ true W x0 y0 x1 y1 x2 y2 x3 y3 (rsame_eq hz1 hz2)
  have HT := Lib.hid hT
  clear hT hz1 hz2
  have HR := Lib.hid hR
  have HS := Lib.hid hS
  clear hR hS hK hbx hsu hso hc0 hc1 hml hcb e1 e2 hl
  generalize doB su so l = rr at *
  obtain ⟨rs, rm, re⟩ := rr
  go_wp2_with (first | (go_at_call 25; with_reducible refine (HR.out _ HB.out).mono ?_; rintro e W2 ⟨v0_, v1_, rfl, h0, h1, hb⟩; obtain ⟨Ba, da, rfl⟩ := Kd.R_slice h0; obtain ⟨Ea, ea, rfl⟩ := Kd.R_slice h1; have Ha0 := Lib.hid h0; have Ha1 := Lib.hid h1; have W2B := Lib.hid (HB.out.trans (hb.mono HB.out.size)); have BXW2 := Lib.hid (blk_same BX.out hb); have bxW2_0 := (blk_cell BXW2.out 0).trans rfl; have bxW2_1 := (blk_cell BXW2.out 1).trans rfl; have bz_0 := (fun o : Obj => (blk_cell (blk_alloc BXW2.out o) 0).trans rfl); have bz_1 := (fun o : Obj => (blk_cell (blk_alloc BXW2.out o) 1).trans rfl); clear hb h0 h1) | (go_at_call 17; with_reducible refine (HS.out _ (below_alloc W2B.out _)).mono ?_; rintro e W3 ⟨v0_, v1_, rfl, h0, h1, hb⟩; obtain ⟨Bb, db, rfl⟩ := Kd.R_slice h0; obtain ⟨Eb, eb, rfl⟩ := Kd.R_slice h1; have Hb0 := Lib.hid h0; have Hb1 := Lib.hid h1; have BP := Lib.hid (blk_same (heap_alloc_new W2 (.cells #[.slice Ba rs.length da, .slice Ea rm.length ea] 30)) hb); have Ha2 := Lib.hid (Kd.R_below (Kd.R_alloc Ha0.out _) hb); have Ha3 := Lib.hid (Kd.R_below (Kd.R_alloc Ha1.out _) hb); have W3B := Lib.hid ((below_alloc W2B.out (.cells #[.slice Ba rs.length da, .slice Ea rm.length ea] 30)).trans (hb.mono (below_alloc W2B.out (.cells #[.slice Ba rs.length da, .slice Ea rm.length ea] 30)).size)); have bp_0 := (fun o : Obj => (blk_cell (blk_alloc BP.out o) 0).trans rfl); have bp_1 := (fun o : Obj => (blk_cell (blk_alloc BP.out o) 1).trans rfl); clear hb h0 h1) | (go_at_call 15; with_reducible refine (HT.out _ _ _ _ _ _ _ _ _ (Kd.R_reads' (Kd.R_alloc Ha2.out _)).2.2 (Kd.R_reads' Ha2.out).2.1 (Kd.R_reads' (Kd.R_alloc Ha3.out _)).2.2 (Kd.R_reads' Ha3.out).2.1 (Kd.R_reads' (Kd.R_alloc Hb0.out _)).2.2 (Kd.R_reads' Hb0.out).2.1 (Kd.R_reads' (Kd.R_alloc Hb1.out _)).2.2 (Kd.R_reads' Hb1.out).2.1).mono ?_; rintro e W4 ⟨rfl, hb⟩; have W4B := Lib.hid ((below_alloc W3B.out _).trans (hb.mono (below_alloc W3B.out _).size)); clear hb))
  exact HK.out _ _ _ _ _ _ _ _ _ _ _ _ _ _ _ _ _ _ _ _ _ _ _ _ _ _ _ _ _ _ _ W4B.out
end Go.Proofs.Ytcfinlmocgbnbaa.Pr
end

section
namespace Go.Proofs.Ytcfinlmocgbnbaa.Pr
open Go.Proofs.Ytcfinlmocgbnbaa.Sq Go.RowKit Go.Shelf Go.Proofs.Ytcfinlmocgbnbaa.XB Go.Proofs.YtcfinlmocgbnbaaW.PrintWords Go.Proofs.YtcfinlmocgbnbaaW.PrintLast Go.Proofs.YtcfinlmocgbnbaaW.PrintMore
set_option linter.unusedVariables false
set_option linter.unusedSimpArgs false
set_option maxRecDepth 100000
theorem row_step {P : Program} {ops : Array Oper} {Q : Exit → Act → World → Prop} {o : Oper} {a : Act} {Kc : Act → World → Prop} {W : World} (hw : Region.wanted o (yielded ops a.tmps) = true) {N : Tmp} (_hd : o.dst = some N) {n : Nat} {cs : Array Value} {t : TypeId}
    (hrun : (execOp a.eval o).run P W = .ok (.value (.slice (some ⟨W.heap.size, 0, none⟩) n n)) (W.alloc (.cells cs t (0, 0))))
    (h : ∀ g, g = W.heap.size → ∀ w1, w1.heap[g]? = some (.cells cs t (0, 0)) → Below W.heap.size W w1 → Kc (a.put o.dst (.slice (some ⟨g, 0, none⟩) n n)) w1) : if Region.wanted o (yielded ops a.tmps) = true then Oper.wp P o a W Kc Q else Kc (a.put o.dst undef) W :=
  event_step hw hrun (h _ rfl _ (blk_new W _) (below_alloc (Below.refl _ _) _))
def dt3.T26 : Bool × List (List Nat × List Nat) := (true, [([], []), ([], []), ([0, 1], [0, 1]), ([], []), ([3], [3]), ([], []), ([5, 2], [5]), ([6], [6]), ([], []), ([], []), ([7, 8, 9], [7, 8, 9]), ([2, 4, 10], [2, 4, 10]), ([11], [11]), ([], [])])
def dt3.B26 : List Nat := [0, 0, 3, 0, 8, 0, 39, 103, 0, 0, 999, 2047, 4095, 0]
theorem dt3.tab26 : rtab .any (opsOf Try.f3 26) = dt3.T26 := by kernel_rfl
theorem dt3.bits26 : waitsOk dt3.T26.2 dt3.B26 = true := by kernel_rfl
def regionIn : Code → Nat → Option Code
  | .region id ops m, k => if id == k then some (.region id ops m) else none
  | .seq a b, k => match regionIn a k with
    | some o => some o
    | none => regionIn b k
  | .cond _ a b, k => match regionIn a k with
    | some o => some o
    | none => regionIn b k
  | .block _ c, k => regionIn c k
  | .loop c, k => regionIn c k
  | .scope c, k => regionIn c k
  | _, _ => none
noncomputable def dt3r26 : Code := ((Try.f3.body.bind fun c => regionIn c 26)).getD .skip
set_option maxHeartbeats 8000000 in
theorem dt3_r26 {Q : Exit → Act → World → Prop} (go : Nat) {raw : List S67} {odd : S24} {n k : Int} {A2 : Option Addr} {c2 : Nat} {ml : List S24} {bs : ByteArray} (fm fb : Nat) (w : World) (hp : ∀ c a (m : Nat) v w, Q (.panic c) (a.put (some m) v) w → Q (.panic c) a w)
    (hod : w.heap[go]? = some (.cells #[.bool odd.f0, .int .i64 odd.f1, .string odd.f2] 24 (0, 0))) (hraw : Kd.C k67 w A2 raw.length raw) (hc2 : raw.length ≤ c2) (hm : columbariumlaw14_Moves.f fm raw k = some ml) (hbs : columbariumlaw14_Bytes.f fb n = some bs)
    {p0 p1 p3 p4 p6 p7 p8 p10 p11 p12 p13 p14 p15 p16 p17 p19 p20 p21 p22 p23 p24 p25 p26 p27 p28 p29 p30 p31 p32 p33 p34 p35 p36 p37 p38 p39 p40 p41 p42 p43 p44 p45 p46 p47 p48 p49 p50 p51 p52 p53 p54 p55 p56 p57 p58 p59 p60 p61 p62 p63 p64 p65 p66 p67 p68 p69 p70 p71 p72 p73 p74 p75 p76 p77 p78 p79 p80 p81 p82 p83 p84 p85 p86 p87 p88 p89 p90 p91 p92 p93 p94 p95 p96 p97 p98 p99 p100 p101 p102 p103 p104 p105 p106 p107 p108 p109 p110 p111 p112 p113 p114 p115 p116 p117 p118 p119 p120 p121 p122 p123 p124 p125 p126 p127 p128 p129 p130 p131 p132 p133 p134 p135 p136 p137 p138 p139 p140 p141 p142 p143 p144 p145 p146 p147 p148 p149 p150 p151 p152 p153 p168 p169 p170 p171 p172 p173 p174 p175 p176 p177 p178 p179 p180 p181 p182 p183 p184 p185 p186 p187 p188 p189 p190 p191 p192 p193 p194 p195 p196 p197 p198 p199 p200 p201 p202 p203 p204 p205 p206 p207 p208 p209 p210 p211 p212 p213 p214 p215 : Value} {u154 u155 u156 u157 u158 u159 u160 u161 u162 u163 u164 u165 u166 u167 : Value}
    (hQ : ∀ (B2 : Option Addr) (d2 : Nat) (B4 : Option Addr) (d4 : Nat) (B10 : Option Addr) (d10 b11 d11 : Nat) (v154 v155 v156 v157 v158 v159 v160 v161 v162 v163 v164 : Value) (W' : World), Below w.heap.size w W' → W'.heap[b11]? = some (.cells #[.slice B2 ml.length d2, .slice B4 1 d4, .slice B10 3 d10] 28 (0, 0)) → Kd.C k24 W' B2 ml.length ml → ml.length ≤ d2 → Kd.C k24 W' B4 1 [odd] → 1 ≤ d4 → Kd.C k24 W' B10 3 [(⟨false, 0, bs⟩ : S24), odd, (⟨true, 0, (⟨#[]⟩ : ByteArray)⟩ : S24)] → 3 ≤ d10 → Q .normal ⟨#[p0, p1, .slice A2 raw.length c2, p3, p4, .int .i64 n, p6, p7, p8, .pointer (some ⟨go, 0, none⟩), p10, p11, p12, p13, p14, p15, p16, p17, .int .i64 k, p19, p20, p21, p22, p23, p24, p25, p26, p27, p28, p29, p30, p31, p32, p33, p34, p35, p36, p37, p38, p39, p40, p41, p42, p43, p44, p45, p46, p47, p48, p49, p50, p51, p52, p53, p54, p55, p56, p57, p58, p59, p60, p61, p62, p63, p64, p65, p66, p67, p68, p69, p70, p71, p72, p73, p74, p75, p76, p77, p78, p79, p80, p81, p82, p83, p84, p85, p86, p87, p88, p89, p90, p91, p92, p93, p94, p95, p96, p97, p98, p99, p100, p101, p102, p103, p104, p105, p106, p107, p108, p109, p110, p111, p112, p113, p114, p115, p116, p117, p118, p119, p120, p121, p122, p123, p124, p125, p126, p127, p128, p129, p130, p131, p132, p133, p134, p135, p136, p137, p138, p139, p140, p141, p142, p143, p144, p145, p146, p147, p148, p149, p150, p151, p152, p153, v154, v155, v156, v157, v158, v159, v160, v161, v162, v163, v164, .slice (some ⟨b11, 0, none⟩) 3 d11, .int .i64 3, .int .i64 0, p168, p169, p170, p171, p172, p173, p174, p175, p176, p177, p178, p179, p180, p181, p182, p183, p184, p185, p186, p187, p188, p189, p190, p191, p192, p193, p194, p195, p196, p197, p198, p199, p200, p201, p202, p203, p204, p205, p206, p207, p208, p209, p210, p211, p212, p213, p214, p215], []⟩ W') :
    Code.wp Try.prog dt3r26 Q ⟨#[p0, p1, .slice A2 raw.length c2, p3, p4, .int .i64 n, p6, p7, p8, .pointer (some ⟨go, 0, none⟩), p10, p11, p12, p13, p14, p15, p16, p17, .int .i64 k, p19, p20, p21, p22, p23, p24, p25, p26, p27, p28, p29, p30, p31, p32, p33, p34, p35, p36, p37, p38, p39, p40, p41, p42, p43, p44, p45, p46, p47, p48, p49, p50, p51, p52, p53, p54, p55, p56, p57, p58, p59, p60, p61, p62, p63, p64, p65, p66, p67, p68, p69, p70, p71, p72, p73, p74, p75, p76, p77, p78, p79, p80, p81, p82, p83, p84, p85, p86, p87, p88, p89, p90, p91, p92, p93, p94, p95, p96, p97, p98, p99, p100, p101, p102, p103, p104, p105, p106, p107, p108, p109, p110, p111, p112, p113, p114, p115, p116, p117, p118, p119, p120, p121, p122, p123, p124, p125, p126, p127, p128, p129, p130, p131, p132, p133, p134, p135, p136, p137, p138, p139, p140, p141, p142, p143, p144, p145, p146, p147, p148, p149, p150, p151, p152, p153, u154, u155, u156, u157, u158, u159, u160, u161, u162, u163, u164, u165, u166, u167, p168, p169, p170, p171, p172, p173, p174, p175, p176, p177, p178, p179, p180, p181, p182, p183, p184, p185, p186, p187, p188, p189, p190, p191, p192, p193, p194, p195, p196, p197, p198, p199, p200, p201, p202, p203, p204, p205, p206, p207, p208, p209, p210, p211, p212, p213, p214, p215], []⟩ w := by
 conv => arg 2; whnf
 have HB := am (below_drew1 (Below.refl w.heap.size w))
 have BO := am (Go.Proofs.YtcfinlmocgbnbaaW.PrintWords.blk_drew hod)
 have HR := am (Kd.C_drew hraw)
 have HC := am hc2
 have HM := am hm
 have HY := am hbs
 clear hod hraw hc2 hm hbs
 refine start_ (n := 14) (S := fun w' => w'.cell? ⟨go, 0, none⟩ = some (.bool odd.f0) ∧ w'.cell? ⟨go, 1, none⟩ = some (.int .i64 odd.f1) ∧ w'.cell? ⟨go, 2, none⟩ = some (.string odd.f2)) (ds := []) #[false, false, false, false, false, false, false, false, false, false, false, false, false, false] (by kernel_rfl) rfl rfl (bc3 BO) (fun hHeld => ?_); refine with_tabW dt3.tab26 dt3.bits26 (fun HT_ HW_ => ?_)
 generalize w.drew = w0 at HB BO HR hHeld ⊢
 refine pu_ 0 (some 154) HT_ rfl rfl (.inl ⟨by rfl, by intro w'; go_simp; with_reducible rfl⟩) (by simp only [Act.put, sa_, s0_, s1_, i64_w, i32_w]; rfl) ?_ (by kernel_rfl) (fun c a w h => hp c a _ _ w h)
 refine pu_ 1 (some 155) HT_ rfl rfl (.inl ⟨by rfl, by intro w'; go_simp; with_reducible rfl⟩) (by simp only [Act.put, sa_, s0_, s1_, i64_w, i32_w]; rfl) ?_ (by kernel_rfl) (fun c a w h => hp c a _ _ w h)
 refine pu_ 5 (some 159) HT_ rfl rfl (.inl ⟨by rfl, by intro w'; go_simp; with_reducible rfl⟩) (by simp only [Act.put, sa_, s0_, s1_, i64_w, i32_w]; rfl) ?_ (by kernel_rfl) (fun c a w h => hp c a _ _ w h)
 refine pu_ 9 (some 163) HT_ rfl rfl (.inl ⟨by rfl, by intro w'; go_simp; with_reducible rfl⟩) (by simp only [Act.put, sa_, s0_, s1_, i64_w, i32_w]; rfl) ?_ (by kernel_rfl) (fun c a w h => hp c a _ _ w h)
 refine pu_ 13 (some 167) HT_ rfl rfl (.inl ⟨by rfl, by intro w'; go_simp; with_reducible rfl⟩) (by simp only [Act.put, sa_, s0_, s1_, i64_w, i32_w]; rfl) ?_ (by kernel_rfl) (fun c a w h => hp c a _ _ w h)
 refine tk_ 3 (some 157) HT_ HW_ rfl rfl (.inl ⟨by rfl, by rintro w' ⟨s0, s1, s2⟩; go_simp; with_reducible rfl⟩) hHeld (by simp only [Act.put, sa_, s0_, s1_, i64_w, i32_w]; rfl) ?_ (by kernel_rfl) (fun c a w h => hp c a _ _ w h)
 refine tk_ 8 (some 162) HT_ HW_ rfl rfl (.inl ⟨by rfl, by rintro w' ⟨s0, s1, s2⟩; go_simp; with_reducible rfl⟩) hHeld (by simp only [Act.put, sa_, s0_, s1_, i64_w, i32_w]; rfl) ?_ (by kernel_rfl) (fun c a w h => hp c a _ _ w h)
 refine two_ (i := 2) (j := 4) (Ni := (some 156)) (Nj := (some 158)) #[true, true, true, true, false, true, false, false, true, true, false, false, false, true] #[true, true, false, true, true, true, false, false, true, true, false, false, false, true] rfl rfl rfl rfl (two_of HT_.out (by kernel_rfl)) (by decide) (by decide) (fun K hK => ?_) (fun K hK => ?_)
 ·skip
  refine goes_ Try.func18 (by kernel_rfl) rfl #[.slice A2 raw.length c2, .int .i64 k] (by rfl) rfl rfl (by (try simp only [List.map_toArray, List.map_cons, List.map_nil]) <;> rfl) ?_
  refine (columbariumlaw14_Moves.calls fm _ _ raw k ml _ HR.out HC.out HM.out).mono ?_
  rintro e W2 ⟨v2, rfl, h2, hb⟩
  obtain ⟨B2, d2, rfl⟩ := Kd.R_slice h2
  refine ⟨_, rfl, ?_⟩
  have C2 := am (Kd.R_reads' h2).2.2; have D2 := am (Kd.R_reads' h2).2.1; clear h2
  have n0_ := am (below_step HB.out hb); have n1_ := am (blk_same BO.out hb); have n2_ := am (Kd.C_below HR.out hb); clear HB BO HR; have HB := n0_; have BO := n1_; have HR := n2_; clear n0_ n1_ n2_
  clear hb
  refine hK.out _ _ (bc3 BO) (fun hHeld => ?_)
  clear hK K
  refine norm_ (by show Act.put _ (some 156) _ = _; simp only [Act.put, sa_, s0_, s1_, i64_w, i32_w]; rfl) ?_
  refine two_ (i := 4) (j := 6) (Ni := (some 158)) (Nj := (some 160)) #[true, true, true, true, true, true, false, false, true, true, false, false, false, true] #[true, true, true, true, false, true, true, false, true, true, false, false, false, true] rfl rfl rfl rfl (two_of HT_.out (by kernel_rfl)) (by decide) (by decide) (fun K hK => ?_) (fun K hK => ?_)
  ·skip
   refine Kd.R_lit_step k24 _ 24 ?hg (N := 158) ?hd (xs := ([odd] : List S24)) (inner := [.bool odd.f0, .int .i64 odd.f1, .string odd.f2]) (ok := fun _ => True) (okp := fun _ => True) ?hr ?hp (fun _ hk => hk) trivial (Below.refl _ _) (Nat.le_refl _) (by simp) ?_; (case hd => rfl); (case hg => rfl); (case hr => first | (go_simp; done) | (go_simp; rfl)); (case hp => exact (Reps.c3 (show Kd.M k24 _ _ _ odd [.bool odd.f0, .int .i64 odd.f1, .string odd.f2] from (k24_mkM _ _ _ odd)) (Reps.none _ _)))
   intro v4 W2 h4 hb _ _
   obtain ⟨B4, d4, rfl⟩ := Kd.R_slice h4
   have C4 := am (Kd.R_reads' h4).2.2; have D4 := am (Kd.R_reads' h4).2.1; clear h4
   have n0_ := am (below_step HB.out hb); have n1_ := am (blk_same BO.out hb); have n2_ := am (Kd.C_below HR.out hb); have n3_ := am (Kd.C_below C2.out hb); clear HB BO HR C2; have HB := n0_; have BO := n1_; have HR := n2_; have C2 := n3_; clear n0_ n1_ n2_ n3_
   clear hb
   refine hK.out _ _ (bc3 BO) (fun hHeld => ?_)
   clear hK K
   refine norm_ (by show Act.put _ (some 158) _ = _; simp only [Act.put, sa_, s0_, s1_, i64_w, i32_w]; rfl) ?_
   refine on_ 6 (some 160) HT_ rfl rfl (fun K hK => ?_)
   refine goes_ Try.func24 (by kernel_rfl) rfl #[.int .i64 n] (by rfl) rfl rfl (by (try simp only [List.map_toArray, List.map_cons, List.map_nil]) <;> rfl) ?_
   refine (columbariumlaw14_Bytes.calls fb n bs _ HY.out).mono ?_
   rintro e W2 ⟨rfl, hb⟩
   refine ⟨_, rfl, ?_⟩
   have n0_ := am (below_step HB.out hb); have n1_ := am (blk_same BO.out hb); have n2_ := am (Kd.C_below HR.out hb); have n3_ := am (Kd.C_below C2.out hb); have n4_ := am (Kd.C_below C4.out hb); clear HB BO HR C2 C4; have HB := n0_; have BO := n1_; have HR := n2_; have C2 := n3_; have C4 := n4_; clear n0_ n1_ n2_ n3_ n4_
   clear hb
   refine hK.out _ _ (bc3 BO) (fun hHeld => ?_)
   clear hK K
   refine norm_ (by show Act.put _ (some 160) _ = _; simp only [Act.put, sa_, s0_, s1_, i64_w, i32_w]; rfl) ?_
   refine pu_ 7 (some 161) HT_ rfl rfl (.inl ⟨by rfl, by intro w'; go_simp; with_reducible rfl⟩) (by simp only [Act.put, sa_, s0_, s1_, i64_w, i32_w]; rfl) ?_ (by kernel_rfl) (fun c a w h => hp c a _ _ w h)
   refine on_ 10 (some 164) HT_ rfl rfl (fun K hK => ?_)
   refine Kd.R_lit_step k24 _ 24 ?hg (N := 164) ?hd (xs := ([(⟨false, 0, bs⟩ : S24), odd, (⟨true, 0, (⟨#[]⟩ : ByteArray)⟩ : S24)] : List S24)) (inner := [.bool false, .int .i64 0, .string bs, .bool odd.f0, .int .i64 odd.f1, .string odd.f2, .bool true, .int .i64 0, .string (⟨#[]⟩ : ByteArray)]) (ok := fun _ => True) (okp := fun _ => True) ?hr ?hp (fun _ hk => hk) trivial (Below.refl _ _) (Nat.le_refl _) (by simp) ?_; (case hd => rfl); (case hg => rfl); (case hr => first | (go_simp; done) | (go_simp; rfl)); (case hp => exact (Reps.c3 (show Kd.M k24 _ _ _ (⟨false, 0, bs⟩ : S24) [.bool false, .int .i64 0, .string bs] from (k24_mkM _ _ _ (⟨false, 0, bs⟩ : S24))) (Reps.c3 (show Kd.M k24 _ _ _ odd [.bool odd.f0, .int .i64 odd.f1, .string odd.f2] from (k24_mkM _ _ _ odd)) (Reps.c3 (show Kd.M k24 _ _ _ (⟨true, 0, (⟨#[]⟩ : ByteArray)⟩ : S24) [.bool true, .int .i64 0, .string (⟨#[]⟩ : ByteArray)] from (k24_mkM _ _ _ (⟨true, 0, (⟨#[]⟩ : ByteArray)⟩ : S24))) (Reps.none _ _)))))
   intro v10 W2 h10 hb _ _
   obtain ⟨B10, d10, rfl⟩ := Kd.R_slice h10
   have C10 := am (Kd.R_reads' h10).2.2; have D10 := am (Kd.R_reads' h10).2.1; clear h10
   have n0_ := am (below_step HB.out hb); have n1_ := am (blk_same BO.out hb); have n2_ := am (Kd.C_below HR.out hb); have n3_ := am (Kd.C_below C2.out hb); have n4_ := am (Kd.C_below C4.out hb); clear HB BO HR C2 C4; have HB := n0_; have BO := n1_; have HR := n2_; have C2 := n3_; have C4 := n4_; clear n0_ n1_ n2_ n3_ n4_
   clear hb
   refine hK.out _ _ (bc3 BO) (fun hHeld => ?_)
   clear hK K
   refine norm_ (by show Act.put _ (some 164) _ = _; simp only [Act.put, sa_, s0_, s1_, i64_w, i32_w]; rfl) ?_
   refine on_ 11 (some 165) HT_ rfl rfl (fun K hK => ?_)
   refine row_step ?hg (N := 165) ?hd (n := 3) (cs := #[.slice B2 ml.length d2, .slice B4 1 d4, .slice B10 3 d10]) (t := 28) ?hr ?_; (case hd => rfl); (case hg => rfl); (case hr => first | (go_simp; done) | (go_simp; rfl))
   intro b11 hg11 W2 h11 hb
   have B11 := am h11; clear h11
   have n0_ := am (below_step HB.out hb); have n1_ := am (blk_same BO.out hb); have n2_ := am (Kd.C_below HR.out hb); have n3_ := am (Kd.C_below C2.out hb); have n4_ := am (Kd.C_below C4.out hb); have n5_ := am (Kd.C_below C10.out hb); clear HB BO HR C2 C4 C10; have HB := n0_; have BO := n1_; have HR := n2_; have C2 := n3_; have C4 := n4_; have C10 := n5_; clear n0_ n1_ n2_ n3_ n4_ n5_
   clear hb
   clear hg11
   refine hK.out _ _ (bc3 BO) (fun hHeld => ?_)
   clear hK K
   refine norm_ (by show Act.put _ (some 165) _ = _; simp only [Act.put, sa_, s0_, s1_, i64_w, i32_w]; rfl) ?_
   refine pu_ 12 (some 166) HT_ rfl rfl (.inl ⟨by rfl, by intro w'; go_simp; with_reducible rfl⟩) (by simp only [Act.put, sa_, s0_, s1_, i64_w, i32_w]; rfl) ?_ (by kernel_rfl) (fun c a w h => hp c a _ _ w h)
   refine done_ (done_of HT_.out (by kernel_rfl)) ?_
   exact hQ _ _ _ _ _ _ _ _ _ _ _ _ _ _ _ _ _ _ _ _ HB.out B11.out C2.out D2.out C4.out D4.out C10.out D10.out
  ·skip
   refine goes_ Try.func24 (by kernel_rfl) rfl #[.int .i64 n] (by rfl) rfl rfl (by (try simp only [List.map_toArray, List.map_cons, List.map_nil]) <;> rfl) ?_
   refine (columbariumlaw14_Bytes.calls fb n bs _ HY.out).mono ?_
   rintro e W2 ⟨rfl, hb⟩
   refine ⟨_, rfl, ?_⟩
   have n0_ := am (below_step HB.out hb); have n1_ := am (blk_same BO.out hb); have n2_ := am (Kd.C_below HR.out hb); have n3_ := am (Kd.C_below C2.out hb); clear HB BO HR C2; have HB := n0_; have BO := n1_; have HR := n2_; have C2 := n3_; clear n0_ n1_ n2_ n3_
   clear hb
   refine hK.out _ _ (bc3 BO) (fun hHeld => ?_)
   clear hK K
   refine norm_ (by show Act.put _ (some 160) _ = _; simp only [Act.put, sa_, s0_, s1_, i64_w, i32_w]; rfl) ?_
   refine pu_ 7 (some 161) HT_ rfl rfl (.inl ⟨by rfl, by intro w'; go_simp; with_reducible rfl⟩) (by simp only [Act.put, sa_, s0_, s1_, i64_w, i32_w]; rfl) ?_ (by kernel_rfl) (fun c a w h => hp c a _ _ w h)
   refine two_ (i := 4) (j := 10) (Ni := (some 158)) (Nj := (some 164)) #[true, true, true, true, true, true, true, true, true, true, false, false, false, true] #[true, true, true, true, false, true, true, true, true, true, true, false, false, true] rfl rfl rfl rfl (two_of HT_.out (by kernel_rfl)) (by decide) (by decide) (fun K hK => ?_) (fun K hK => ?_)
   ·skip
    refine Kd.R_lit_step k24 _ 24 ?hg (N := 158) ?hd (xs := ([odd] : List S24)) (inner := [.bool odd.f0, .int .i64 odd.f1, .string odd.f2]) (ok := fun _ => True) (okp := fun _ => True) ?hr ?hp (fun _ hk => hk) trivial (Below.refl _ _) (Nat.le_refl _) (by simp) ?_; (case hd => rfl); (case hg => rfl); (case hr => first | (go_simp; done) | (go_simp; rfl)); (case hp => exact (Reps.c3 (show Kd.M k24 _ _ _ odd [.bool odd.f0, .int .i64 odd.f1, .string odd.f2] from (k24_mkM _ _ _ odd)) (Reps.none _ _)))
    intro v4 W2 h4 hb _ _
    obtain ⟨B4, d4, rfl⟩ := Kd.R_slice h4
    have C4 := am (Kd.R_reads' h4).2.2; have D4 := am (Kd.R_reads' h4).2.1; clear h4
    have n0_ := am (below_step HB.out hb); have n1_ := am (blk_same BO.out hb); have n2_ := am (Kd.C_below HR.out hb); have n3_ := am (Kd.C_below C2.out hb); clear HB BO HR C2; have HB := n0_; have BO := n1_; have HR := n2_; have C2 := n3_; clear n0_ n1_ n2_ n3_
    clear hb
    refine hK.out _ _ (bc3 BO) (fun hHeld => ?_)
    clear hK K
    refine norm_ (by show Act.put _ (some 158) _ = _; simp only [Act.put, sa_, s0_, s1_, i64_w, i32_w]; rfl) ?_
    refine on_ 10 (some 164) HT_ rfl rfl (fun K hK => ?_)
    refine Kd.R_lit_step k24 _ 24 ?hg (N := 164) ?hd (xs := ([(⟨false, 0, bs⟩ : S24), odd, (⟨true, 0, (⟨#[]⟩ : ByteArray)⟩ : S24)] : List S24)) (inner := [.bool false, .int .i64 0, .string bs, .bool odd.f0, .int .i64 odd.f1, .string odd.f2, .bool true, .int .i64 0, .string (⟨#[]⟩ : ByteArray)]) (ok := fun _ => True) (okp := fun _ => True) ?hr ?hp (fun _ hk => hk) trivial (Below.refl _ _) (Nat.le_refl _) (by simp) ?_; (case hd => rfl); (case hg => rfl); (case hr => first | (go_simp; done) | (go_simp; rfl)); (case hp => exact (Reps.c3 (show Kd.M k24 _ _ _ (⟨false, 0, bs⟩ : S24) [.bool false, .int .i64 0, .string bs] from (k24_mkM _ _ _ (⟨false, 0, bs⟩ : S24))) (Reps.c3 (show Kd.M k24 _ _ _ odd [.bool odd.f0, .int .i64 odd.f1, .string odd.f2] from (k24_mkM _ _ _ odd)) (Reps.c3 (show Kd.M k24 _ _ _ (⟨true, 0, (⟨#[]⟩ : ByteArray)⟩ : S24) [.bool true, .int .i64 0, .string (⟨#[]⟩ : ByteArray)] from (k24_mkM _ _ _ (⟨true, 0, (⟨#[]⟩ : ByteArray)⟩ : S24))) (Reps.none _ _)))))
    intro v10 W2 h10 hb _ _
    obtain ⟨B10, d10, rfl⟩ := Kd.R_slice h10
    have C10 := am (Kd.R_reads' h10).2.2; have D10 := am (Kd.R_reads' h10).2.1; clear h10
    have n0_ := am (below_step HB.out hb); have n1_ := am (blk_same BO.out hb); have n2_ := am (Kd.C_below HR.out hb); have n3_ := am (Kd.C_below C2.out hb); have n4_ := am (Kd.C_below C4.out hb); clear HB BO HR C2 C4; have HB := n0_; have BO := n1_; have HR := n2_; have C2 := n3_; have C4 := n4_; clear n0_ n1_ n2_ n3_ n4_
    clear hb
    refine hK.out _ _ (bc3 BO) (fun hHeld => ?_)
    clear hK K
    refine norm_ (by show Act.put _ (some 164) _ = _; simp only [Act.put, sa_, s0_, s1_, i64_w, i32_w]; rfl) ?_
    refine on_ 11 (some 165) HT_ rfl rfl (fun K hK => ?_)
    refine row_step ?hg (N := 165) ?hd (n := 3) (cs := #[.slice B2 ml.length d2, .slice B4 1 d4, .slice B10 3 d10]) (t := 28) ?hr ?_; (case hd => rfl); (case hg => rfl); (case hr => first | (go_simp; done) | (go_simp; rfl))
    intro b11 hg11 W2 h11 hb
    have B11 := am h11; clear h11
    have n0_ := am (below_step HB.out hb); have n1_ := am (blk_same BO.out hb); have n2_ := am (Kd.C_below HR.out hb); have n3_ := am (Kd.C_below C2.out hb); have n4_ := am (Kd.C_below C4.out hb); have n5_ := am (Kd.C_below C10.out hb); clear HB BO HR C2 C4 C10; have HB := n0_; have BO := n1_; have HR := n2_; have C2 := n3_; have C4 := n4_; have C10 := n5_; clear n0_ n1_ n2_ n3_ n4_ n5_
    clear hb
    clear hg11
    refine hK.out _ _ (bc3 BO) (fun hHeld => ?_)
    clear hK K
    refine norm_ (by show Act.put _ (some 165) _ = _; simp only [Act.put, sa_, s0_, s1_, i64_w, i32_w]; rfl) ?_
    refine pu_ 12 (some 166) HT_ rfl rfl (.inl ⟨by rfl, by intro w'; go_simp; with_reducible rfl⟩) (by simp only [Act.put, sa_, s0_, s1_, i64_w, i32_w]; rfl) ?_ (by kernel_rfl) (fun c a w h => hp c a _ _ w h)
    refine done_ (done_of HT_.out (by kernel_rfl)) ?_
    exact hQ _ _ _ _ _ _ _ _ _ _ _ _ _ _ _ _ _ _ _ _ HB.out B11.out C2.out D2.out C4.out D4.out C10.out D10.out
   ·skip
    refine Kd.R_lit_step k24 _ 24 ?hg (N := 164) ?hd (xs := ([(⟨false, 0, bs⟩ : S24), odd, (⟨true, 0, (⟨#[]⟩ : ByteArray)⟩ : S24)] : List S24)) (inner := [.bool false, .int .i64 0, .string bs, .bool odd.f0, .int .i64 odd.f1, .string odd.f2, .bool true, .int .i64 0, .string (⟨#[]⟩ : ByteArray)]) (ok := fun _ => True) (okp := fun _ => True) ?hr ?hp (fun _ hk => hk) trivial (Below.refl _ _) (Nat.le_refl _) (by simp) ?_; (case hd => rfl); (case hg => rfl); (case hr => first | (go_simp; done) | (go_simp; rfl)); (case hp => exact (Reps.c3 (show Kd.M k24 _ _ _ (⟨false, 0, bs⟩ : S24) [.bool false, .int .i64 0, .string bs] from (k24_mkM _ _ _ (⟨false, 0, bs⟩ : S24))) (Reps.c3 (show Kd.M k24 _ _ _ odd [.bool odd.f0, .int .i64 odd.f1, .string odd.f2] from (k24_mkM _ _ _ odd)) (Reps.c3 (show Kd.M k24 _ _ _ (⟨true, 0, (⟨#[]⟩ : ByteArray)⟩ : S24) [.bool true, .int .i64 0, .string (⟨#[]⟩ : ByteArray)] from (k24_mkM _ _ _ (⟨true, 0, (⟨#[]⟩ : ByteArray)⟩ : S24))) (Reps.none _ _)))))
    intro v10 W2 h10 hb _ _
    obtain ⟨B10, d10, rfl⟩ := Kd.R_slice h10
    have C10 := am (Kd.R_reads' h10).2.2; have D10 := am (Kd.R_reads' h10).2.1; clear h10
    have n0_ := am (below_step HB.out hb); have n1_ := am (blk_same BO.out hb); have n2_ := am (Kd.C_below HR.out hb); have n3_ := am (Kd.C_below C2.out hb); clear HB BO HR C2; have HB := n0_; have BO := n1_; have HR := n2_; have C2 := n3_; clear n0_ n1_ n2_ n3_
    clear hb
    refine hK.out _ _ (bc3 BO) (fun hHeld => ?_)
    clear hK K
    refine norm_ (by show Act.put _ (some 164) _ = _; simp only [Act.put, sa_, s0_, s1_, i64_w, i32_w]; rfl) ?_
    refine on_ 4 (some 158) HT_ rfl rfl (fun K hK => ?_)
    refine Kd.R_lit_step k24 _ 24 ?hg (N := 158) ?hd (xs := ([odd] : List S24)) (inner := [.bool odd.f0, .int .i64 odd.f1, .string odd.f2]) (ok := fun _ => True) (okp := fun _ => True) ?hr ?hp (fun _ hk => hk) trivial (Below.refl _ _) (Nat.le_refl _) (by simp) ?_; (case hd => rfl); (case hg => rfl); (case hr => first | (go_simp; done) | (go_simp; rfl)); (case hp => exact (Reps.c3 (show Kd.M k24 _ _ _ odd [.bool odd.f0, .int .i64 odd.f1, .string odd.f2] from (k24_mkM _ _ _ odd)) (Reps.none _ _)))
    intro v4 W2 h4 hb _ _
    obtain ⟨B4, d4, rfl⟩ := Kd.R_slice h4
    have C4 := am (Kd.R_reads' h4).2.2; have D4 := am (Kd.R_reads' h4).2.1; clear h4
    have n0_ := am (below_step HB.out hb); have n1_ := am (blk_same BO.out hb); have n2_ := am (Kd.C_below HR.out hb); have n3_ := am (Kd.C_below C2.out hb); have n4_ := am (Kd.C_below C10.out hb); clear HB BO HR C2 C10; have HB := n0_; have BO := n1_; have HR := n2_; have C2 := n3_; have C10 := n4_; clear n0_ n1_ n2_ n3_ n4_
    clear hb
    refine hK.out _ _ (bc3 BO) (fun hHeld => ?_)
    clear hK K
    refine norm_ (by show Act.put _ (some 158) _ = _; simp only [Act.put, sa_, s0_, s1_, i64_w, i32_w]; rfl) ?_
    refine on_ 11 (some 165) HT_ rfl rfl (fun K hK => ?_)
    refine row_step ?hg (N := 165) ?hd (n := 3) (cs := #[.slice B2 ml.length d2, .slice B4 1 d4, .slice B10 3 d10]) (t := 28) ?hr ?_; (case hd => rfl); (case hg => rfl); (case hr => first | (go_simp; done) | (go_simp; rfl))
    intro b11 hg11 W2 h11 hb
    have B11 := am h11; clear h11
    have n0_ := am (below_step HB.out hb); have n1_ := am (blk_same BO.out hb); have n2_ := am (Kd.C_below HR.out hb); have n3_ := am (Kd.C_below C2.out hb); have n4_ := am (Kd.C_below C10.out hb); have n5_ := am (Kd.C_below C4.out hb); clear HB BO HR C2 C10 C4; have HB := n0_; have BO := n1_; have HR := n2_; have C2 := n3_; have C10 := n4_; have C4 := n5_; clear n0_ n1_ n2_ n3_ n4_ n5_
    clear hb
    clear hg11
    refine hK.out _ _ (bc3 BO) (fun hHeld => ?_)
    clear hK K
    refine norm_ (by show Act.put _ (some 165) _ = _; simp only [Act.put, sa_, s0_, s1_, i64_w, i32_w]; rfl) ?_
    refine pu_ 12 (some 166) HT_ rfl rfl (.inl ⟨by rfl, by intro w'; go_simp; with_reducible rfl⟩) (by simp only [Act.put, sa_, s0_, s1_, i64_w, i32_w]; rfl) ?_ (by kernel_rfl) (fun c a w h => hp c a _ _ w h)
    refine done_ (done_of HT_.out (by kernel_rfl)) ?_
    exact hQ _ _ _ _ _ _ _ _ _ _ _ _ _ _ _ _ _ _ _ _ HB.out B11.out C2.out D2.out C4.out D4.out C10.out D10.out
 ·skip
  refine Kd.R_lit_step k24 _ 24 ?hg (N := 158) ?hd (xs := ([odd] : List S24)) (inner := [.bool odd.f0, .int .i64 odd.f1, .string odd.f2]) (ok := fun _ => True) (okp := fun _ => True) ?hr ?hp (fun _ hk => hk) trivial (Below.refl _ _) (Nat.le_refl _) (by simp) ?_; (case hd => rfl); (case hg => rfl); (case hr => first | (go_simp; done) | (go_simp; rfl)); (case hp => exact (Reps.c3 (show Kd.M k24 _ _ _ odd [.bool odd.f0, .int .i64 odd.f1, .string odd.f2] from (k24_mkM _ _ _ odd)) (Reps.none _ _)))
  intro v4 W2 h4 hb _ _
  obtain ⟨B4, d4, rfl⟩ := Kd.R_slice h4
  have C4 := am (Kd.R_reads' h4).2.2; have D4 := am (Kd.R_reads' h4).2.1; clear h4
  have n0_ := am (below_step HB.out hb); have n1_ := am (blk_same BO.out hb); have n2_ := am (Kd.C_below HR.out hb); clear HB BO HR; have HB := n0_; have BO := n1_; have HR := n2_; clear n0_ n1_ n2_
  clear hb
  refine hK.out _ _ (bc3 BO) (fun hHeld => ?_)
  clear hK K
  refine norm_ (by show Act.put _ (some 158) _ = _; simp only [Act.put, sa_, s0_, s1_, i64_w, i32_w]; rfl) ?_
  refine on_ 2 (some 156) HT_ rfl rfl (fun K hK => ?_)
  refine goes_ Try.func18 (by kernel_rfl) rfl #[.slice A2 raw.length c2, .int .i64 k] (by rfl) rfl rfl (by (try simp only [List.map_toArray, List.map_cons, List.map_nil]) <;> rfl) ?_
  refine (columbariumlaw14_Moves.calls fm _ _ raw k ml _ HR.out HC.out HM.out).mono ?_
  rintro e W2 ⟨v2, rfl, h2, hb⟩
  obtain ⟨B2, d2, rfl⟩ := Kd.R_slice h2
  refine ⟨_, rfl, ?_⟩
  have C2 := am (Kd.R_reads' h2).2.2; have D2 := am (Kd.R_reads' h2).2.1; clear h2
  have n0_ := am (below_step HB.out hb); have n1_ := am (blk_same BO.out hb); have n2_ := am (Kd.C_below HR.out hb); have n3_ := am (Kd.C_below C4.out hb); clear HB BO HR C4; have HB := n0_; have BO := n1_; have HR := n2_; have C4 := n3_; clear n0_ n1_ n2_ n3_
  clear hb
  refine hK.out _ _ (bc3 BO) (fun hHeld => ?_)
  clear hK K
  refine norm_ (by show Act.put _ (some 156) _ = _; simp only [Act.put, sa_, s0_, s1_, i64_w, i32_w]; rfl) ?_
  refine on_ 6 (some 160) HT_ rfl rfl (fun K hK => ?_)
  refine goes_ Try.func24 (by kernel_rfl) rfl #[.int .i64 n] (by rfl) rfl rfl (by (try simp only [List.map_toArray, List.map_cons, List.map_nil]) <;> rfl) ?_
  refine (columbariumlaw14_Bytes.calls fb n bs _ HY.out).mono ?_
  rintro e W2 ⟨rfl, hb⟩
  refine ⟨_, rfl, ?_⟩
  have n0_ := am (below_step HB.out hb); have n1_ := am (blk_same BO.out hb); have n2_ := am (Kd.C_below HR.out hb); have n3_ := am (Kd.C_below C4.out hb); have n4_ := am (Kd.C_below C2.out hb); clear HB BO HR C4 C2; have HB := n0_; have BO := n1_; have HR := n2_; have C4 := n3_; have C2 := n4_; clear n0_ n1_ n2_ n3_ n4_
  clear hb
  refine hK.out _ _ (bc3 BO) (fun hHeld => ?_)
  clear hK K
  refine norm_ (by show Act.put _ (some 160) _ = _; simp only [Act.put, sa_, s0_, s1_, i64_w, i32_w]; rfl) ?_
  refine pu_ 7 (some 161) HT_ rfl rfl (.inl ⟨by rfl, by intro w'; go_simp; with_reducible rfl⟩) (by simp only [Act.put, sa_, s0_, s1_, i64_w, i32_w]; rfl) ?_ (by kernel_rfl) (fun c a w h => hp c a _ _ w h)
  refine on_ 10 (some 164) HT_ rfl rfl (fun K hK => ?_)
  refine Kd.R_lit_step k24 _ 24 ?hg (N := 164) ?hd (xs := ([(⟨false, 0, bs⟩ : S24), odd, (⟨true, 0, (⟨#[]⟩ : ByteArray)⟩ : S24)] : List S24)) (inner := [.bool false, .int .i64 0, .string bs, .bool odd.f0, .int .i64 odd.f1, .string odd.f2, .bool true, .int .i64 0, .string (⟨#[]⟩ : ByteArray)]) (ok := fun _ => True) (okp := fun _ => True) ?hr ?hp (fun _ hk => hk) trivial (Below.refl _ _) (Nat.le_refl _) (by simp) ?_; (case hd => rfl); (case hg => rfl); (case hr => first | (go_simp; done) | (go_simp; rfl)); (case hp => exact (Reps.c3 (show Kd.M k24 _ _ _ (⟨false, 0, bs⟩ : S24) [.bool false, .int .i64 0, .string bs] from (k24_mkM _ _ _ (⟨false, 0, bs⟩ : S24))) (Reps.c3 (show Kd.M k24 _ _ _ odd [.bool odd.f0, .int .i64 odd.f1, .string odd.f2] from (k24_mkM _ _ _ odd)) (Reps.c3 (show Kd.M k24 _ _ _ (⟨true, 0, (⟨#[]⟩ : ByteArray)⟩ : S24) [.bool true, .int .i64 0, .string (⟨#[]⟩ : ByteArray)] from (k24_mkM _ _ _ (⟨true, 0, (⟨#[]⟩ : ByteArray)⟩ : S24))) (Reps.none _ _)))))
  intro v10 W2 h10 hb _ _
  obtain ⟨B10, d10, rfl⟩ := Kd.R_slice h10
  have C10 := am (Kd.R_reads' h10).2.2; have D10 := am (Kd.R_reads' h10).2.1; clear h10
  have n0_ := am (below_step HB.out hb); have n1_ := am (blk_same BO.out hb); have n2_ := am (Kd.C_below HR.out hb); have n3_ := am (Kd.C_below C4.out hb); have n4_ := am (Kd.C_below C2.out hb); clear HB BO HR C4 C2; have HB := n0_; have BO := n1_; have HR := n2_; have C4 := n3_; have C2 := n4_; clear n0_ n1_ n2_ n3_ n4_
  clear hb
  refine hK.out _ _ (bc3 BO) (fun hHeld => ?_)
  clear hK K
  refine norm_ (by show Act.put _ (some 164) _ = _; simp only [Act.put, sa_, s0_, s1_, i64_w, i32_w]; rfl) ?_
  refine on_ 11 (some 165) HT_ rfl rfl (fun K hK => ?_)
  refine row_step ?hg (N := 165) ?hd (n := 3) (cs := #[.slice B2 ml.length d2, .slice B4 1 d4, .slice B10 3 d10]) (t := 28) ?hr ?_; (case hd => rfl); (case hg => rfl); (case hr => first | (go_simp; done) | (go_simp; rfl))
  intro b11 hg11 W2 h11 hb
  have B11 := am h11; clear h11
  have n0_ := am (below_step HB.out hb); have n1_ := am (blk_same BO.out hb); have n2_ := am (Kd.C_below HR.out hb); have n3_ := am (Kd.C_below C4.out hb); have n4_ := am (Kd.C_below C2.out hb); have n5_ := am (Kd.C_below C10.out hb); clear HB BO HR C4 C2 C10; have HB := n0_; have BO := n1_; have HR := n2_; have C4 := n3_; have C2 := n4_; have C10 := n5_; clear n0_ n1_ n2_ n3_ n4_ n5_
  clear hb
  clear hg11
  refine hK.out _ _ (bc3 BO) (fun hHeld => ?_)
  clear hK K
  refine norm_ (by show Act.put _ (some 165) _ = _; simp only [Act.put, sa_, s0_, s1_, i64_w, i32_w]; rfl) ?_
  refine pu_ 12 (some 166) HT_ rfl rfl (.inl ⟨by rfl, by intro w'; go_simp; with_reducible rfl⟩) (by simp only [Act.put, sa_, s0_, s1_, i64_w, i32_w]; rfl) ?_ (by kernel_rfl) (fun c a w h => hp c a _ _ w h)
  refine done_ (done_of HT_.out (by kernel_rfl)) ?_
  exact hQ _ _ _ _ _ _ _ _ _ _ _ _ _ _ _ _ _ _ _ _ HB.out B11.out C2.out D2.out C4.out D4.out C10.out D10.out
end Go.Proofs.Ytcfinlmocgbnbaa.Pr
end

section
namespace Go.Proofs.Ytcfinlmocgbnbaa.Pr
open Go.Proofs.Ytcfinlmocgbnbaa.Sq Go.RowKit Go.Shelf Go.Proofs.Ytcfinlmocgbnbaa.XB Go.Proofs.YtcfinlmocgbnbaaW.PrintWords Go.Proofs.YtcfinlmocgbnbaaW.PrintLast Go.Proofs.YtcfinlmocgbnbaaW.PrintMore
set_option linter.unusedVariables false
set_option linter.unusedSimpArgs false
set_option maxRecDepth 100000
def dt3.T8 : Bool × List (List Nat × List Nat) := (true, [([], []), ([], []), ([], []), ([1, 2], [1, 2]), ([0, 3, 3], [0, 3]), ([4], [4]), ([5], [5]), ([5], [5]), ([6, 4, 0, 1, 2, 3, 4, 5, 6], [6])])
def dt3.B8 : List Nat := [0, 0, 0, 6, 15, 31, 63, 63, 127]
theorem dt3.tab8 : rtab .any (opsOf Try.f3 8) = dt3.T8 := by kernel_rfl
theorem dt3.bits8 : waitsOk dt3.T8.2 dt3.B8 = true := by kernel_rfl
noncomputable def dt3r8 : Code := ((Try.f3.body.bind fun c => regionIn c 8)).getD .skip
set_option maxHeartbeats 8000000 in
theorem dt3_r8 {Q : Exit → Act → World → Prop} (gd : Nat) {raw : List S67} {k : Int} {A1 Bn En : Option Addr} {c1 dn en : Nat} {ns su : List ByteArray} {nm so ml : List S24} {de : Int} (fm fd : Nat) (W0 w : World) (hp : ∀ c a (m : Nat) v w, Q (.panic c) (a.put (some m) v) w → Q (.panic c) a w)
    (hb0 : Below W0.heap.size W0 w) (hgd : W0.heap.size ≤ gd) (hbx : w.heap[gd]? = some (.cells #[.slice Bn ns.length dn, .slice En nm.length en] 30 (0, 0)))
    (hns : Kd.C Kd.string w Bn ns.length ns) (hdn : ns.length ≤ dn) (hnm : Kd.C k24 w En nm.length nm) (hen : nm.length ≤ en)
    (hraw : Kd.C k67 w A1 raw.length raw) (hc1 : raw.length ≤ c1) (hm : columbariumlaw14_Moves.f fm raw k = some ml) (hd : columbariumref14_Do.f fd ns nm ml = some (su, so, de))
    {p0 p2 p3 p4 p5 p6 p7 p8 p9 p10 p11 p12 p13 p14 p15 p16 p17 p20 p21 p22 p23 p24 p25 p26 p27 p28 p29 p30 p31 p32 p33 p34 p35 p36 p37 p38 p39 p40 p41 p42 p43 p44 p45 p46 p47 p48 p49 p50 p51 p52 p53 p54 p55 p56 p57 p58 p59 p60 p61 p62 p63 p64 p65 p66 p67 p68 p69 p70 p71 p72 p73 p74 p75 p76 p77 p78 p79 p80 p81 p82 p83 p84 p93 p94 p95 p96 p97 p98 p99 p100 p101 p102 p103 p104 p105 p106 p107 p108 p109 p110 p111 p112 p113 p114 p115 p116 p117 p118 p119 p120 p121 p122 p123 p124 p125 p126 p127 p128 p129 p130 p131 p132 p133 p134 p135 p136 p137 p138 p139 p140 p141 p142 p143 p144 p145 p146 p147 p148 p149 p150 p151 p152 p153 p154 p155 p156 p157 p158 p159 p160 p161 p162 p163 p164 p165 p166 p167 p168 p169 p170 p171 p172 p173 p174 p175 p176 p177 p178 p179 p180 p181 p182 p183 p184 p185 p186 p187 p188 p189 p190 p191 p192 p193 p194 p195 p196 p197 p198 p199 p200 p201 p202 p203 p204 p205 p206 p207 p208 p209 p210 p211 p212 p213 p214 p215 : Value} {u85 u86 u87 u88 u89 u90 u91 u92 : Value}
    (hQ : ∀ (Ba : Option Addr) (da : Nat) (Ea : Option Addr) (ea : Nat) (v85 v86 v87 v88 v89 v90 v91 v92 : Value) (W' : World), Below W0.heap.size W0 W' → W'.heap[gd]? = some (.cells #[.slice Ba su.length da, .slice Ea so.length ea] 30 (0, 0)) → Kd.C Kd.string W' Ba su.length su → su.length ≤ da → Kd.C k24 W' Ea so.length so → so.length ≤ ea → (∀ g o, g ≠ gd → w.heap[g]? = some o → W'.heap[g]? = some o) → Q .normal ⟨#[p0, .slice A1 raw.length c1, p2, p3, p4, p5, p6, p7, p8, p9, p10, p11, p12, p13, p14, p15, p16, p17, .int .i64 k, .pointer (some ⟨gd, 0, none⟩), p20, p21, p22, p23, p24, p25, p26, p27, p28, p29, p30, p31, p32, p33, p34, p35, p36, p37, p38, p39, p40, p41, p42, p43, p44, p45, p46, p47, p48, p49, p50, p51, p52, p53, p54, p55, p56, p57, p58, p59, p60, p61, p62, p63, p64, p65, p66, p67, p68, p69, p70, p71, p72, p73, p74, p75, p76, p77, p78, p79, p80, p81, p82, p83, p84, v85, v86, v87, v88, v89, v90, v91, v92, p93, p94, p95, p96, p97, p98, p99, p100, p101, p102, p103, p104, p105, p106, p107, p108, p109, p110, p111, p112, p113, p114, p115, p116, p117, p118, p119, p120, p121, p122, p123, p124, p125, p126, p127, p128, p129, p130, p131, p132, p133, p134, p135, p136, p137, p138, p139, p140, p141, p142, p143, p144, p145, p146, p147, p148, p149, p150, p151, p152, p153, p154, p155, p156, p157, p158, p159, p160, p161, p162, p163, p164, p165, p166, p167, p168, p169, p170, p171, p172, p173, p174, p175, p176, p177, p178, p179, p180, p181, p182, p183, p184, p185, p186, p187, p188, p189, p190, p191, p192, p193, p194, p195, p196, p197, p198, p199, p200, p201, p202, p203, p204, p205, p206, p207, p208, p209, p210, p211, p212, p213, p214, p215], []⟩ W') :
    Code.wp Try.prog dt3r8 Q ⟨#[p0, .slice A1 raw.length c1, p2, p3, p4, p5, p6, p7, p8, p9, p10, p11, p12, p13, p14, p15, p16, p17, .int .i64 k, .pointer (some ⟨gd, 0, none⟩), p20, p21, p22, p23, p24, p25, p26, p27, p28, p29, p30, p31, p32, p33, p34, p35, p36, p37, p38, p39, p40, p41, p42, p43, p44, p45, p46, p47, p48, p49, p50, p51, p52, p53, p54, p55, p56, p57, p58, p59, p60, p61, p62, p63, p64, p65, p66, p67, p68, p69, p70, p71, p72, p73, p74, p75, p76, p77, p78, p79, p80, p81, p82, p83, p84, u85, u86, u87, u88, u89, u90, u91, u92, p93, p94, p95, p96, p97, p98, p99, p100, p101, p102, p103, p104, p105, p106, p107, p108, p109, p110, p111, p112, p113, p114, p115, p116, p117, p118, p119, p120, p121, p122, p123, p124, p125, p126, p127, p128, p129, p130, p131, p132, p133, p134, p135, p136, p137, p138, p139, p140, p141, p142, p143, p144, p145, p146, p147, p148, p149, p150, p151, p152, p153, p154, p155, p156, p157, p158, p159, p160, p161, p162, p163, p164, p165, p166, p167, p168, p169, p170, p171, p172, p173, p174, p175, p176, p177, p178, p179, p180, p181, p182, p183, p184, p185, p186, p187, p188, p189, p190, p191, p192, p193, p194, p195, p196, p197, p198, p199, p200, p201, p202, p203, p204, p205, p206, p207, p208, p209, p210, p211, p212, p213, p214, p215], []⟩ w := by
 conv => arg 2; whnf
 have HB := am (below_drew1 hb0)
 have HO := am (below_drew1 (Below.refl w.heap.size w))
 have BO := am (Go.Proofs.YtcfinlmocgbnbaaW.PrintWords.blk_drew hbx)
 have HR := am (Kd.C_drew hraw)
 have HS := am (Kd.C_drew hns)
 have HN := am (Kd.C_drew hnm)
 have HC := am hc1
 have HS1 := am hdn
 have HN1 := am hen
 have HM := am hm
 have HD := am hd
 clear hb0 hbx hraw hc1 hm hns hdn hnm hen hd
 refine start_ (n := 9) (S := fun w' => w'.cell? ⟨gd, 0, none⟩ = some (.slice Bn ns.length dn) ∧ w'.cell? ⟨gd, 1, none⟩ = some (.slice En nm.length en)) (ds := [8]) #[false, false, false, false, false, false, false, false, false] (by kernel_rfl) rfl rfl (bc2 BO) (fun hHeld => ?_); refine with_tabW dt3.tab8 dt3.bits8 (fun HT_ HW_ => ?_)
 generalize w.drew = w0 at HB HO BO HR HS HN hHeld ⊢
 refine pu_ 1 (some 87) HT_ rfl rfl (.inl ⟨by rfl, by intro w'; go_simp; with_reducible rfl⟩) (by simp only [Act.put, sa_, s0_, s1_, i64_w, i32_w]; rfl) ?_ (by kernel_rfl) (fun c a w h => hp c a _ _ w h)
 refine pu_ 2 (some 88) HT_ rfl rfl (.inl ⟨by rfl, by intro w'; go_simp; with_reducible rfl⟩) (by simp only [Act.put, sa_, s0_, s1_, i64_w, i32_w]; rfl) ?_ (by kernel_rfl) (fun c a w h => hp c a _ _ w h)
 refine tk_ 0 (some 86) HT_ HW_ rfl rfl (.inl ⟨by rfl, by rintro w' ⟨s0, s1⟩; go_simp; with_reducible rfl⟩) hHeld (by simp only [Act.put, sa_, s0_, s1_, i64_w, i32_w]; rfl) ?_ (by kernel_rfl) (fun c a w h => hp c a _ _ w h)
 refine on_ 3 (some 89) HT_ rfl rfl (fun K hK => ?_)
 refine goes_ Try.func18 (by kernel_rfl) rfl #[.slice A1 raw.length c1, .int .i64 k] (by rfl) rfl rfl (by (try simp only [List.map_toArray, List.map_cons, List.map_nil]) <;> rfl) ?_
 refine (columbariumlaw14_Moves.calls fm _ _ raw k ml _ HR.out HC.out HM.out).mono ?_
 rintro e W2 ⟨v2, rfl, h2, hb⟩
 obtain ⟨B2, d2, rfl⟩ := Kd.R_slice h2
 refine ⟨_, rfl, ?_⟩
 have C2 := am (Kd.R_reads' h2).2.2; have D2 := am (Kd.R_reads' h2).2.1; clear h2
 have n0_ := am (below_step HB.out hb); have n1_ := am (below_step HO.out hb); have n2_ := am (blk_same BO.out hb); have n3_ := am (Kd.C_below HS.out hb); have n4_ := am (Kd.C_below HN.out hb); clear HB HO BO HS HN; have HB := n0_; have HO := n1_; have BO := n2_; have HS := n3_; have HN := n4_; clear n0_ n1_ n2_ n3_ n4_
 clear hb
 refine hK.out _ _ (bc2 BO) (fun hHeld => ?_)
 clear hK K
 refine norm_ (by show Act.put _ (some 89) _ = _; simp only [Act.put, sa_, s0_, s1_, i64_w, i32_w]; rfl) ?_
 refine on_ 4 (some 90) HT_ rfl rfl (fun K hK => ?_)
 refine goes_ Try.func17 (by kernel_rfl) rfl #[.agg #[.slice Bn ns.length dn, .slice En nm.length en], .slice B2 ml.length d2] (by rfl) rfl rfl (by (try simp only [List.map_toArray, List.map_cons, List.map_nil]) <;> rfl) ?_
 refine (columbariumref14_Do.calls fd _ _ ns _ _ nm _ _ ml su so de _ HS.out HS1.out HN.out HN1.out C2.out D2.out HD.out).mono ?_
 rintro e W3 ⟨v0_, v1_, rfl, h0, h1, hb⟩
 obtain ⟨Ba, da, rfl⟩ := Kd.R_slice h0
 obtain ⟨Ea, ea, rfl⟩ := Kd.R_slice h1
 refine ⟨_, rfl, ?_⟩
 have n0_ := am (below_step HB.out hb); have n1_ := am (below_step HO.out hb); have n2_ := am (blk_same BO.out hb); clear HB HO BO; have HB := n0_; have HO := n1_; have BO := n2_; clear n0_ n1_ n2_
 clear hb C2 D2 HS HN
 have R0 := am h0; have R1 := am h1; clear h0 h1
 refine hK.out _ _ (bc2 BO) (fun hHeld => ?_)
 clear hK K
 refine norm_ (by show Act.put _ (some 90) _ = _; simp only [Act.put, sa_, s0_, s1_, i64_w, i32_w]; rfl) ?_
 refine pu_ 5 (some 85) HT_ rfl rfl (.inl ⟨by rfl, by intro w'; go_simp; with_reducible rfl⟩) (by simp only [Act.put, sa_, s0_, s1_, i64_w, i32_w]; rfl) ?_ (by kernel_rfl) (fun c a w h => hp c a _ _ w h)
 refine pu_ 6 (some 91) HT_ rfl rfl (.inl ⟨by rfl, by intro w'; go_simp; with_reducible rfl⟩) (by simp only [Act.put, sa_, s0_, s1_, i64_w, i32_w]; rfl) ?_ (by kernel_rfl) (fun c a w h => hp c a _ _ w h)
 refine pu_ 7 (some 92) HT_ rfl rfl (.inl ⟨by rfl, by intro w'; go_simp; with_reducible rfl⟩) (by simp only [Act.put, sa_, s0_, s1_, i64_w, i32_w]; rfl) ?_ (by kernel_rfl) (fun c a w h => hp c a _ _ w h)
 refine la_ 8 none HT_ rfl rfl (fun K hK => ?_)
 have hs1 := (bc2 BO).1; have hs2 := (bc2 BO).2; have hf1 := blk_frozen BO.out 0; have hf2 := blk_frozen BO.out 1
 refine skip_ (by rfl) rfl (by go_simp; rfl) ?_
 refine hK.out _ _ ?_
 clear hK K hHeld hs1 hs2 hf1 hf2
 refine done_ (done_of HT_.out (by kernel_rfl)) ?_
 have b1 := blk_set BO.out 0 (.slice Ba su.length da)
 have r0 := Kd.R_set (Kd.R_set R0.out BO.out (by decide) 0 (.slice Ba su.length da)) b1 (by decide) 1 (.slice Ea so.length ea)
 have r1 := Kd.R_set (Kd.R_set R1.out BO.out (by decide) 0 (.slice Ba su.length da)) b1 (by decide) 1 (.slice Ea so.length ea)
 exact hQ _ _ _ _ _ _ _ _ _ _ _ _ _ (below_set (below_set HB.out hgd) hgd) (blk_set b1 1 (.slice Ea so.length ea)) (Kd.R_reads' r0).2.2 (Kd.R_reads' r0).2.1 (Kd.R_reads' r1).2.2 (Kd.R_reads' r1).2.1 (fun g o hne hg => by have h2 := blk_same hg HO.out; exact (Below.heap_setCell _ _ _ _ (fun e => hne (by rw [e]))).trans ((Below.heap_setCell _ _ _ _ (fun e => hne (by rw [e]))).trans h2))
end Go.Proofs.Ytcfinlmocgbnbaa.Pr
end

section
namespace Go.Proofs.Ytcfinlmocgbnbaa.Pr
open Go.RowKit Go.Shelf Go.Proofs.Ytcfinlmocgbnbaa.XB Go.Proofs.YtcfinlmocgbnbaaW.PrintWords
attribute [local go_sem] Oper.semAt_some
set_option linter.unusedVariables false
set_option linter.unusedSimpArgs false
set_option maxRecDepth 100000
theorem four_get {w : World} {g : Nat} {a b c d : Int} (h : w.heap[g]? = some (.cells #[.int .i64 a, .int .i64 b, .int .i64 c, .int .i64 d] 3 (0, 0))) (i : Nat) (hi : i < 4) : ∃ v : Int, w.cell? ⟨g, i, none⟩ = some (.int .i64 v) := by
  have : i = 0 ∨ i = 1 ∨ i = 2 ∨ i = 3 := by omega
  rcases this with rfl | rfl | rfl | rfl
  · exact ⟨a, (blk_cell h 0).trans rfl⟩
  · exact ⟨b, (blk_cell h 1).trans rfl⟩
  · exact ⟨c, (blk_cell h 2).trans rfl⟩
  · exact ⟨d, (blk_cell h 3).trans rfl⟩
theorem three_rows {w : World} {g : Nat} {B2 B4 B10 : Option Addr} {d2 d4 d10 : Nat} {ml xl yl : List S24} {nx ny : Nat} (h : w.heap[g]? = some (.cells #[.slice B2 ml.length d2, .slice B4 nx d4, .slice B10 ny d10] 28 (0, 0))) (e2 : Kd.C k24 w B2 ml.length ml) (l2 : ml.length ≤ d2) (hml : ml.length ≤ 1000)
    (e4 : Kd.C k24 w B4 nx xl) (l4 : nx ≤ d4) (e10 : Kd.C k24 w B10 ny yl) (l10 : ny ≤ d10) (hx : nx = xl.length := by rfl) (hy : ny = yl.length := by rfl) (hx1 : nx ≤ 1000 := by decide) (hy1 : ny ≤ 1000 := by decide) :
    ∀ i : Nat, i < 3 → ∃ (l : List S24) (B : Option Addr) (cb : Nat), (∀ X, Below w.heap.size w X → X.cell? ⟨g, i, none⟩ = some (.slice B l.length cb)) ∧ Kd.C k24 w B l.length l ∧ l.length ≤ cb ∧ l.length ≤ 1000 := by
  subst hx
  subst hy
  intro i hi
  have : i = 0 ∨ i = 1 ∨ i = 2 := by omega
  rcases this with rfl | rfl | rfl
  · exact ⟨ml, B2, d2, fun X hX => (blk_cell (blk_same h hX) 0).trans rfl, e2, l2, hml⟩
  · exact ⟨xl, B4, d4, fun X hX => (blk_cell (blk_same h hX) 1).trans rfl, e4, l4, hx1⟩
  · exact ⟨yl, B10, d10, fun X hX => (blk_cell (blk_same h hX) 2).trans rfl, e10, l10, hy1⟩
noncomputable def dt3body : Code := (Try.f3.body.map fun c => (allLoops c).getD 0 .skip).getD .skip
set_option maxHeartbeats 8000000 in
theorem dt3_round {K : Act → World → Prop} {Q : Exit → Act → World → Prop} (j g c go : Nat) (hj : j < 2) {su : List ByteArray} {so : List S24} {raw : List S67} {cuts : List Int} {odd : S24} {n k : Int} {A0 A1 A2 A4 : Option Addr} {c0 c1 c2 c4 : Nat} {ml : List S24} {bs : ByteArray} (fm fb : Nat) (wq : World) (hp : ∀ c a (m : Nat) v w, Q (.panic c) (a.put (some m) v) w → Q (.panic c) a w)
    (hm : columbariumlaw14_Moves.f fm raw k = some ml) (hbs : columbariumlaw14_Bytes.f fb n = some bs) (hml : ml.length ≤ 1000) (hl0 : su.length ≤ 40000) (hl1 : so.length ≤ 40000)
    (hr0 : wq.cell? ⟨g, j * 2, none⟩ = some (.slice A0 su.length c0)) (hr1 : wq.cell? ⟨g, j * 2 + 1, none⟩ = some (.slice A1 so.length c1)) (hod : wq.heap[go]? = some (.cells #[.bool odd.f0, .int .i64 odd.f1, .string odd.f2] 24 (0, 0)))
    (hsu : Kd.C Kd.string wq A0 su.length su) (hc0 : su.length ≤ c0) (hso : Kd.C k24 wq A1 so.length so) (hc1 : so.length ≤ c1)
    (hraw : Kd.C k67 wq A2 raw.length raw) (hc2 : raw.length ≤ c2) {pk : Int} (hpick : columbariumlaw14_pick.f n k = some pk) (hcut : Kd.C (Kd.int .i64) wq A4 cuts.length cuts) (hc4 : cuts.length ≤ c4)
    {p0 p1 p3 p6 p7 p8 p10 p11 p13 p14 p15 p16 p17 p19 p20 p21 p22 p24 p30 p40 p41 p42 p43 p44 p45 p46 p47 p48 p49 p50 p51 p52 p53 p54 p55 p56 p57 p58 p59 p60 p61 p62 p63 p64 p65 p66 p67 p68 p69 p70 p71 p72 p73 p74 p75 p76 p77 p78 p79 p80 p81 p82 p83 p84 p85 p86 p87 p88 p89 p90 p91 p92 p93 p94 p95 p96 p97 p98 p99 p100 p101 p102 p103 p104 p105 p106 p107 p108 p109 p110 p215 : Value} {u12 u23 u25 u26 u27 u28 u29 u31 u32 u33 u34 u35 u36 u37 u38 u39 u114 u115 u116 u117 u118 u119 u120 u121 u122 u123 u124 u125 u126 u127 u128 u129 u130 u131 u132 u133 u134 u135 u136 u137 u138 u139 u140 u141 u142 u143 u144 u145 u146 u147 u148 u149 u150 u151 u152 u153 u154 u155 u156 u157 u158 u159 u160 u161 u162 u163 u164 u165 u166 u167 u168 u169 u170 u171 u172 u173 u174 u175 u176 u177 u178 u179 u180 u181 u182 u183 u184 u185 u186 u187 u188 u189 u190 u191 u192 u193 u194 u195 u196 u197 u198 u199 u200 u201 u202 u203 u204 u205 u206 u207 u208 u209 u210 u211 u212 u213 u214 : Value}
    (hK : ∀ (v12 v23 v25 v26 v27 v28 v29 v31 v32 v33 v34 v35 v36 v37 v38 v39 v114 v115 v116 v117 v118 v119 v120 v121 v122 v123 v124 v125 v126 v127 v128 v129 v130 v131 v132 v133 v134 v135 v136 v137 v138 v139 v140 v141 v142 v143 v144 v145 v146 v147 v148 v149 v150 v151 v152 v153 v154 v155 v156 v157 v158 v159 v160 v161 v162 v163 v164 v165 v166 v167 v168 v169 v170 v171 v172 v173 v174 v175 v176 v177 v178 v179 v180 v181 v182 v183 v184 v185 v186 v187 v188 v189 v190 v191 v192 v193 v194 v195 v196 v197 v198 v199 v200 v201 v202 v203 v204 v205 v206 v207 v208 v209 v210 v211 v212 v213 v214 : Value) (W' : World), Below wq.heap.size wq W' → K ⟨#[p0, p1, .slice A2 raw.length c2, p3, .slice A4 cuts.length c4, .int .i64 n, p6, p7, p8, .pointer (some ⟨go, 0, none⟩), p10, p11, v12, p13, p14, p15, p16, p17, .int .i64 k, p19, p20, p21, p22, v23, p24, v25, v26, v27, v28, v29, p30, v31, v32, v33, v34, v35, v36, v37, v38, v39, p40, p41, p42, p43, p44, p45, p46, p47, p48, p49, p50, p51, p52, p53, p54, p55, p56, p57, p58, p59, p60, p61, p62, p63, p64, p65, p66, p67, p68, p69, p70, p71, p72, p73, p74, p75, p76, p77, p78, p79, p80, p81, p82, p83, p84, p85, p86, p87, p88, p89, p90, p91, p92, p93, p94, p95, p96, p97, p98, p99, p100, p101, p102, p103, p104, p105, p106, p107, p108, p109, p110, .slice (some ⟨g, 0, none⟩) 2 c, .int .i64 2, .int .i64 ((j : Int) + 1), v114, v115, v116, v117, v118, v119, v120, v121, v122, v123, v124, v125, v126, v127, v128, v129, v130, v131, v132, v133, v134, v135, v136, v137, v138, v139, v140, v141, v142, v143, v144, v145, v146, v147, v148, v149, v150, v151, v152, v153, v154, v155, v156, v157, v158, v159, v160, v161, v162, v163, v164, v165, v166, v167, v168, v169, v170, v171, v172, v173, v174, v175, v176, v177, v178, v179, v180, v181, v182, v183, v184, v185, v186, v187, v188, v189, v190, v191, v192, v193, v194, v195, v196, v197, v198, v199, v200, v201, v202, v203, v204, v205, v206, v207, v208, v209, v210, v211, v212, v213, v214, p215], []⟩ W') :
    Code.wp Try.prog dt3body (Exit.then K Q) ⟨#[p0, p1, .slice A2 raw.length c2, p3, .slice A4 cuts.length c4, .int .i64 n, p6, p7, p8, .pointer (some ⟨go, 0, none⟩), p10, p11, u12, p13, p14, p15, p16, p17, .int .i64 k, p19, p20, p21, p22, u23, p24, u25, u26, u27, u28, u29, p30, u31, u32, u33, u34, u35, u36, u37, u38, u39, p40, p41, p42, p43, p44, p45, p46, p47, p48, p49, p50, p51, p52, p53, p54, p55, p56, p57, p58, p59, p60, p61, p62, p63, p64, p65, p66, p67, p68, p69, p70, p71, p72, p73, p74, p75, p76, p77, p78, p79, p80, p81, p82, p83, p84, p85, p86, p87, p88, p89, p90, p91, p92, p93, p94, p95, p96, p97, p98, p99, p100, p101, p102, p103, p104, p105, p106, p107, p108, p109, p110, .slice (some ⟨g, 0, none⟩) 2 c, .int .i64 2, .int .i64 (j : Int), u114, u115, u116, u117, u118, u119, u120, u121, u122, u123, u124, u125, u126, u127, u128, u129, u130, u131, u132, u133, u134, u135, u136, u137, u138, u139, u140, u141, u142, u143, u144, u145, u146, u147, u148, u149, u150, u151, u152, u153, u154, u155, u156, u157, u158, u159, u160, u161, u162, u163, u164, u165, u166, u167, u168, u169, u170, u171, u172, u173, u174, u175, u176, u177, u178, u179, u180, u181, u182, u183, u184, u185, u186, u187, u188, u189, u190, u191, u192, u193, u194, u195, u196, u197, u198, u199, u200, u201, u202, u203, u204, u205, u206, u207, u208, u209, u210, u211, u212, u213, u214, p215], []⟩ wq := by
  conv => arg 2; whnf
  have HK := Lib.hid hK
  have j0 : (j : Int) < 2 := by omega
  have HB : Hid (Below wq.heap.size wq wq) := Lib.hid (Below.refl _ _)
  clear hK
  go_wp2
  generalize hX : World.alloc wq _ = X
  have hX0 : X.heap[wq.heap.size]? = some (.cells #[.slice A0 su.length c0, .slice A1 so.length c1] 30 (0, 0)) := by rw [← hX]; exact heap_alloc_new wq _
  have hXB : Below wq.heap.size wq X := by rw [← hX]; exact below_alloc (Below.refl _ _) _
  clear hX hr0 hr1
  have BX := Lib.hid hX0
  have XBl := Lib.hid hXB
  have bq_0 := (fun q : XB.In (Below X.heap.size X) => (blk_cell (blk_same hX0 q.h) 0).trans rfl)
  have bq_1 := (fun q : XB.In (Below X.heap.size X) => (blk_cell (blk_same hX0 q.h) 1).trans rfl)
  have hr20 : ∀ q : XB.In (Below X.heap.size X), Calls Try.prog 20 #[.agg #[.slice A0 su.length c0, .slice A1 so.length c1]] q.w fun e w' => e = .returned (.bool (rightB su so)) ∧ Below q.w.heap.size q.w w' := fun q => disk_Right.calls _ _ _ _ _ _ _ q.w (Kd.C_below (Kd.C_below hsu hXB) q.h) hc0 (Kd.C_below (Kd.C_below hso hXB) q.h) hc1 rfl
  have hr21 : ∀ q : XB.In (Below X.heap.size X), Calls Try.prog 21 #[.agg #[.slice A0 su.length c0, .slice A1 so.length c1]] q.w fun e w' => e = .returned (.bool (rightB su so)) ∧ Below q.w.heap.size q.w w' := fun q => columbariumref14_Right.calls 4001 _ _ _ _ _ _ _ q.w (Kd.C_below (Kd.C_below hsu hXB) q.h) hc0 (Kd.C_below (Kd.C_below hso hXB) q.h) hc1 (rright_eq su so (by omega))
  have HF := Lib.hid (And.intro hsu (And.intro hc0 (And.intro hso hc1)))
  have HF2 := Lib.hid (And.intro hraw (And.intro hc2 (And.intro hcut (And.intro hc4 hod))))
  clear hsu hc0 hso hc1 hraw hc2 hcut hc4 hod hX0 hXB
  generalize hrb : rightB su so = rb at *
  clear hrb
  haveI hne : Nonempty (XB.In (Below X.heap.size X)) := ⟨⟨X.drew, below_drew1 (Below.refl _ _)⟩⟩
  refine XB.region_all (fun w' => ∃ q : XB.In (Below X.heap.size X), w' = q.w) (by kernel_rfl) (by kernel_rfl) ⟨⟨X.drew, below_drew1 (Below.refl _ _)⟩, rfl⟩ ?_
  iterate 5 quiet_step (first | (go_at_call 20; with_reducible exact XB.in_belowB (hr20 _)) | (go_at_call 21; with_reducible exact XB.in_belowB (hr21 _)))
  refine wpQuiet_nil ?_
  rintro Y ⟨⟨_, hY⟩, rfl⟩
  have YB := Lib.hid (XBl.out.trans (hY.mono XBl.out.size))
  have BY := Lib.hid (blk_same BX.out hY)
  clear hY bq_0 bq_1 hr20 hr21 hne
  have hpk : ∀ W, Calls Try.prog 16 #[.int .i64 n, .int .i64 k] W fun e w' => e = .returned (.int .i64 pk) ∧ Below W.heap.size W w' := fun W => (columbariumlaw14_pick.calls _ _ _ W hpick).mono (fun e w' h => ⟨h.1, h.2.below⟩)
  have HPK := Lib.hid hpk
  clear hpk hpick
  go_wp2_with (first | (go_at_call 16; with_reducible refine (HPK.out _).mono ?_; rintro e Z ⟨rfl, hb⟩; have ZB := Lib.hid (YB.out.trans (hb.mono YB.out.size)); have BZ := Lib.hid (blk_same BY.out hb); clear hb))
  generalize hL : World.alloc Z _ = L
  have LB0 : Below Z.heap.size Z L := by rw [← hL]; exact below_alloc (Below.refl _ _) _
  have RL := Lib.hid (show L.heap[Z.heap.size]? = some (.cells #[.int .i64 n, .int .i64 pk, .int .i64 k, .int .i64 (-1)] 3 (0, 0)) by rw [← hL]; exact heap_alloc_new Z _)
  have BL := Lib.hid (blk_same BZ.out LB0)
  have LB := Lib.hid (ZB.out.trans (LB0.mono ZB.out.size))
  clear hL LB0
  go_loopw [129] (fun v X => ∃ i : Nat, i ≤ 4 ∧ v = .int .i64 (i : Int) ∧ Below L.heap.size L X) (fun v _ => 4 - (intOf v).toNat)
  case atStart => exact ⟨0, by omega, rfl, Below.refl _ _⟩
  case round =>
    obtain ⟨i, hi, rfl, hXi⟩ := hrel
    have XiB := Lib.hid (LB.out.trans (hXi.mono LB.out.size))
    have BXi := Lib.hid (blk_same BL.out hXi)
    have RXi := blk_same RL.out hXi
    by_cases hlt : i < 4
    · obtain ⟨iv, hrow⟩ := four_get RXi i hlt
      refine dt1_round i Z.heap.size 4 wq.heap.size hlt iv _ hrow BXi.out (Kd.C_below HF.out.1 XiB.out) HF.out.2.1 (Kd.C_below HF.out.2.2.1 XiB.out) HF.out.2.2.2 ?_
      intro v25 v26 v27 v28 v29 v130 v131 v132 v133 v134 v135 v136 v137 v138 v139 v140 v141 v142 v143 v144 v145 v146 v147 v148 v149 v150 v151 v152 v153 W' hB'
      refine ⟨⟨_, _, _, _, _, _, _, _, _, _, _, _, _, _, _, _, _, _, _, _, _, _, _, _, _, _, _, _, _, _, _, ⟨i + 1, by omega, congrArg (Value.int .i64) (by omega), hXi.trans (hB'.mono hXi.size)⟩, rfl⟩, ?_⟩
      simp [intOf]; omega
    · obtain rfl : i = 4 := by omega
      have e4 : ((4 : Nat) : Int) = 4 := rfl
      rw [e4]
      clear e4 RXi
      go_wp2
      refine dt3_r26 go fm fb _ (by exact fun c a N v w h => hp c a N v w h) (blk_same HF2.out.2.2.2.2 XiB.out) (Kd.C_below HF2.out.1 XiB.out) HF2.out.2.1 hm hbs ?_
      intro B2 d2 B4 d4 B10 d10 b11 d11 v154 v155 v156 v157 v158 v159 v160 v161 v162 v163 v164 W3 hW3 h11 e2 l2 e4 l4 e10 l10
      have W3B := Lib.hid (XiB.out.trans (hW3.mono XiB.out.size))
      have BW3 := Lib.hid (blk_same BXi.out hW3)
      have HL := Lib.hid (three_rows h11 e2 l2 hml e4 l4 e10 l10)
      have HE := Lib.hid HF2.out.2.2
      clear hW3 h11 e2 l2 e4 l4 e10 l10 XiB BXi hXi RL BL LB BX XBl YB BY ZB BZ HPK HF2
      go_wp2
      go_loopw [167] (fun v X => ∃ i : Nat, i ≤ 3 ∧ v = .int .i64 (i : Int) ∧ Below W3.heap.size W3 X) (fun v _ => 3 - (intOf v).toNat)
      case atStart => exact ⟨0, by omega, rfl, Below.refl _ _⟩
      case round =>
        obtain ⟨i, hi, rfl, hXi⟩ := hrel
        have XiB := Lib.hid (W3B.out.trans (hXi.mono W3B.out.size))
        have BXi := Lib.hid (blk_same BW3.out hXi)
        by_cases hlt : i < 3
        · obtain ⟨l, B, cb, hcell, hC, hcb, hl⟩ := HL.out i hlt
          have hlen := doB_len su so l
          refine dt2_round i b11 d11 wq.heap.size hlt _ (hcell _ hXi) BXi.out (Kd.C_below HF.out.1 XiB.out) HF.out.2.1 (Kd.C_below HF.out.2.2.1 XiB.out) HF.out.2.2.2 (Kd.C_below hC hXi) hcb hl (by omega) (by omega) (by omega) (by omega) ?_
          intro v31 v32 v33 v34 v35 v168 v169 v170 v171 v172 v173 v174 v175 v176 v177 v178 v179 v180 v181 v182 v183 v184 v185 v186 v187 v188 v189 v190 v191 v192 W' hB'
          refine ⟨⟨_, _, _, _, _, _, _, _, _, _, _, _, _, _, _, _, _, _, _, _, _, _, _, _, _, _, _, _, _, _, _, _, ⟨i + 1, by omega, congrArg (Value.int .i64) (by omega), hXi.trans (hB'.mono hXi.size)⟩, rfl⟩, ?_⟩
          simp [intOf]; omega
        · obtain rfl : i = 3 := by omega
          have e4 : ((3 : Nat) : Int) = 3 := rfl
          rw [e4]
          clear e4 HL hXi
          have bx_0 := (blk_cell BXi.out 0).trans rfl
          have bx_1 := (blk_cell BXi.out 1).trans rfl
          have hlen := crashB_len su so cuts
          have e1 : disk_Crash.f su so cuts = some ((crashB su so cuts).1, (crashB su so cuts).2.1, (crashB su so cuts).2.2) := by unfold disk_Crash.f; rw [if_pos ⟨by omega, by omega⟩]
          have e2 : columbariumref14_Crash.f 4001 su so cuts = some ((crashB su so cuts).1, (crashB su so cuts).2.1, (crashB su so cuts).2.2) := rcrash_eq cuts (by omega) (by omega) (by omega)
          have hR := fun W (hb : Below wr.heap.size wr W) => disk_Crash.calls _ _ _ _ _ _ _ _ _ _ _ _ W (Kd.C_below (Kd.C_below HF.out.1 XiB.out) hb) HF.out.2.1 (Kd.C_below (Kd.C_below HF.out.2.2.1 XiB.out) hb) HF.out.2.2.2 (Kd.C_below (Kd.C_below HE.out.1 XiB.out) hb) HE.out.2.1 e1
          have hS := fun W (hb : Below wr.heap.size wr W) => columbariumref14_Crash.calls 4001 _ _ _ _ _ _ _ _ _ _ _ _ W (Kd.C_below (Kd.C_below HF.out.1 XiB.out) hb) HF.out.2.1 (Kd.C_below (Kd.C_below HF.out.2.2.1 XiB.out) hb) HF.out.2.2.2 (Kd.C_below (Kd.C_below HE.out.1 XiB.out) hb) HE.out.2.1 e2
          have hT := fun W A0 c0 A1 c1 B0 d0 B1 d1 (x0 : Kd.C Kd.string W A0 (crashB su so cuts).1.length (crashB su so cuts).1) (y0 : (crashB su so cuts).1.length ≤ c0) (x1 : Kd.C k24 W A1 (crashB su so cuts).2.1.length (crashB su so cuts).2.1) (y1 : (crashB su so cuts).2.1.length ≤ c1) (x2 : Kd.C Kd.string W B0 (crashB su so cuts).1.length (crashB su so cuts).1) (y2 : (crashB su so cuts).1.length ≤ d0) (x3 : Kd.C k24 W B1 (crashB su so cuts).2.1.length (crashB su so cuts).2.1) (y3 : (crashB su so cuts).2.1.length ≤ d1) => columbariumref14_Same.calls 200010 _ _ _ _ _ _ _ _ _ _ _ _ true W x0 y0 x1 y1 x2 y2 x3 y3 (rsame_eq (by omega) (by omega))
          have HT := Lib.hid hT
          have HR := Lib.hid hR
          have HS := Lib.hid hS
          have HLB := Lib.hid XiB.out
          clear hT hR hS e1 e2 hlen hml hl0 hl1 HF HE hm hbs hp
          generalize crashB su so cuts = rr at *
          obtain ⟨rs, rm, re⟩ := rr
          go_wp2_with (first | (go_at_call 26; with_reducible refine (HR.out _ (Below.refl _ _)).mono ?_; rintro e W5 ⟨v0_, v1_, rfl, h0, h1, hb⟩; obtain ⟨Ba, da, rfl⟩ := Kd.R_slice h0; obtain ⟨Ea, ea, rfl⟩ := Kd.R_slice h1; have Ha0 := Lib.hid h0; have Ha1 := Lib.hid h1; have W5B := Lib.hid hb; have BXW5 := Lib.hid (blk_same BXi.out hb); have bxW5_0 := (blk_cell BXW5.out 0).trans rfl; have bxW5_1 := (blk_cell BXW5.out 1).trans rfl; have bz_0 := (fun o : Obj => (blk_cell (blk_alloc BXW5.out o) 0).trans rfl); have bz_1 := (fun o : Obj => (blk_cell (blk_alloc BXW5.out o) 1).trans rfl); clear hb h0 h1) | (go_at_call 27; with_reducible refine (HS.out _ (below_alloc W5B.out _)).mono ?_; rintro e W6 ⟨v0_, v1_, rfl, h0, h1, hb⟩; obtain ⟨Bb, db, rfl⟩ := Kd.R_slice h0; obtain ⟨Eb, eb, rfl⟩ := Kd.R_slice h1; have Hb0 := Lib.hid h0; have Hb1 := Lib.hid h1; have BP := Lib.hid (blk_same (heap_alloc_new W5 (.cells #[.slice Ba rs.length da, .slice Ea rm.length ea] 30)) hb); have Ha2 := Lib.hid (Kd.R_below (Kd.R_alloc Ha0.out _) hb); have Ha3 := Lib.hid (Kd.R_below (Kd.R_alloc Ha1.out _) hb); have W6B := Lib.hid ((below_alloc W5B.out (.cells #[.slice Ba rs.length da, .slice Ea rm.length ea] 30)).trans (hb.mono (below_alloc W5B.out (.cells #[.slice Ba rs.length da, .slice Ea rm.length ea] 30)).size)); have bp_0 := (fun o : Obj => (blk_cell (blk_alloc BP.out o) 0).trans rfl); have bp_1 := (fun o : Obj => (blk_cell (blk_alloc BP.out o) 1).trans rfl); clear hb h0 h1) | (go_at_call 15; with_reducible refine (HT.out _ _ _ _ _ _ _ _ _ (Kd.R_reads' (Kd.R_alloc Ha2.out _)).2.2 (Kd.R_reads' Ha2.out).2.1 (Kd.R_reads' (Kd.R_alloc Ha3.out _)).2.2 (Kd.R_reads' Ha3.out).2.1 (Kd.R_reads' (Kd.R_alloc Hb0.out _)).2.2 (Kd.R_reads' Hb0.out).2.1 (Kd.R_reads' (Kd.R_alloc Hb1.out _)).2.2 (Kd.R_reads' Hb1.out).2.1).mono ?_; rintro e W7 ⟨rfl, hb⟩; have W7B := Lib.hid ((below_alloc W6B.out _).trans (hb.mono (below_alloc W6B.out _).size)); clear hb))
          exact HK.out _ _ _ _ _ _ _ _ _ _ _ _ _ _ _ _ _ _ _ _ _ _ _ _ _ _ _ _ _ _ _ _ _ _ _ _ _ _ _ _ _ _ _ _ _ _ _ _ _ _ _ _ _ _ _ _ _ _ _ _ _ _ _ _ _ _ _ _ _ _ _ _ _ _ _ _ _ _ _ _ _ _ _ _ _ _ _ _ _ _ _ _ _ _ _ _ _ _ _ _ _ _ _ _ _ _ _ _ _ _ _ _ _ _ _ _ _ _ (HLB.out.trans (W7B.out.mono HLB.out.size))
end Go.Proofs.Ytcfinlmocgbnbaa.Pr
end

section
namespace Go.Proofs.Ytcfinlmocgbnbaa.Pr
open Go.RowKit Go.Shelf Go.Proofs.Ytcfinlmocgbnbaa.XB Go.Proofs.YtcfinlmocgbnbaaW.PrintWords
attribute [local go_sem] Oper.semAt_some
set_option linter.unusedVariables false
set_option linter.unusedSimpArgs false
set_option maxRecDepth 100000
theorem newB_len (n : Int) : (newB n).1.length ≤ 400 ∧ (newB n).2.1.length = 0 := by
  unfold newB
  split
  · rename_i h; simp; omega
  · simp
theorem set1_two {w : World} {g : Nat} {a b : Value} {t : TypeId} (h : w.heap[g]? = some (.cells #[a, b] t (0, 0))) (u : Value) : (w.setCell ⟨g, 1, none⟩ u).heap[g]? = some (.cells #[a, u] t (0, 0)) := Go.Proofs.YtcfinlmocgbnbaaW.PrintWords.blk_set h 1 u
theorem two_disks {w : World} {g : Nat} {A0 A1 B0 B1 : Option Addr} {c0 c1 d0 d1 : Nat} {su su2 : List ByteArray} {so so2 : List S24} (h : w.heap[g]? = some (.cells #[.slice A0 su.length c0, .slice A1 so.length c1, .slice B0 su2.length d0, .slice B1 so2.length d1] 30 (0, 0)))
    (e0 : Kd.C Kd.string w A0 su.length su) (l0 : su.length ≤ c0) (e1 : Kd.C k24 w A1 so.length so) (l1 : so.length ≤ c1) (f0 : Kd.C Kd.string w B0 su2.length su2) (m0 : su2.length ≤ d0) (f1 : Kd.C k24 w B1 so2.length so2) (m1 : so2.length ≤ d1)
    (n0 : su.length ≤ 40000) (n1 : so.length ≤ 40000) (n2 : su2.length ≤ 40000) (n3 : so2.length ≤ 40000) :
    ∀ i : Nat, i < 2 → ∃ (xs : List ByteArray) (ys : List S24) (A : Option Addr) (c : Nat) (B : Option Addr) (d : Nat), (∀ X, Below w.heap.size w X → X.cell? ⟨g, i * 2, none⟩ = some (.slice A xs.length c)) ∧ (∀ X, Below w.heap.size w X → X.cell? ⟨g, i * 2 + 1, none⟩ = some (.slice B ys.length d)) ∧
      Kd.C Kd.string w A xs.length xs ∧ xs.length ≤ c ∧ Kd.C k24 w B ys.length ys ∧ ys.length ≤ d ∧ xs.length ≤ 40000 ∧ ys.length ≤ 40000 := by
  intro i hi
  have : i = 0 ∨ i = 1 := by omega
  rcases this with rfl | rfl
  · exact ⟨su, so, A0, c0, A1, c1, fun X hX => (blk_cell (blk_same h hX) 0).trans rfl, fun X hX => (blk_cell (blk_same h hX) 1).trans rfl, e0, l0, e1, l1, n0, n1⟩
  · exact ⟨su2, so2, B0, d0, B1, d1, fun X hX => (blk_cell (blk_same h hX) 2).trans rfl, fun X hX => (blk_cell (blk_same h hX) 3).trans rfl, f0, m0, f1, m1, n2, n3⟩
theorem str_cell {W : World} {base g n cap : Nat} {ok : Nat → Prop} {xs : List ByteArray} (h : Kd.R Kd.string 9 W base ok (.slice (some ⟨g, 0, none⟩) n cap) xs) (hn : 0 < n) : (∃ s, W.cell? ⟨g, 0, none⟩ = some (.string s)) ∧ W.frozen? ⟨g, 0, none⟩ = false := by
  have := Kd.R_celln ByteArray.empty h 0 (by omega) (by omega)
  exact ⟨⟨_, this.1⟩, this.2⟩
theorem str_put {W : World} {base g n cap : Nat} {ok : Nat → Prop} {xs : List ByteArray} (h : Kd.R Kd.string 9 W base ok (.slice (some ⟨g, 0, none⟩) n cap) xs) (x : ByteArray) :
    Kd.R Kd.string 9 (W.setCell ⟨g, 0, none⟩ (.string x)) base ok (.slice (some ⟨g, 0, none⟩) n cap) (xs.set 0 x) ∧ W.grownBy (W.setCell ⟨g, 0, none⟩ (.string x)) (some g) := Kd.R_putg h 0 x
set_option maxHeartbeats 8000000 in
theorem dtells_calls (blocks n : Int) (raw more : List S67) (odd : S24) (cuts : List Int) {A1 A2 A4 : Option Addr} {c1 c2 c4 : Nat} (w : World)
    (hraw : Kd.C k67 w A1 raw.length raw) (hc1 : raw.length ≤ c1) (hmore : Kd.C k67 w A2 more.length more) (hc2 : more.length ≤ c2) (hcut : Kd.C (Kd.int .i64) w A4 cuts.length cuts) (hc4 : cuts.length ≤ c4) {pk0 : Int} (hp0 : columbariumlaw14_pick.f blocks 6 = some pk0) (h0 : 0 ≤ pk0) (h6 : pk0 < 6) {k : Int} (hk : 1 + pk0 = k) {ml0 : List S24} {su : List ByteArray} {so : List S24} {de : Int} (fm : Nat) (hm0 : columbariumlaw14_Moves.f fm raw k = some ml0) (hl0 : ml0.length ≤ 1000) (hdo : doB (newB k).1 (newB k).2.1 ml0 = (su, so, de)) (hsu0 : 1 ≤ su.length) (hsu1 : su.length ≤ 10000) (hso : so.length ≤ 10000) {pk2 pkn : Int} (hp2 : columbariumlaw14_pick.f n 2 = some pk2) (hpn : columbariumlaw14_pick.f n k = some pkn) {ml : List S24} {bs : ByteArray} (fm2 fb : Nat) (hm2 : columbariumlaw14_Moves.f fm2 more k = some ml) (hml : ml.length ≤ 1000) (hbs : columbariumlaw14_Bytes.f fb n = some bs) :
    Calls Try.prog 3 #[.int .i64 blocks, .slice A1 raw.length c1, .slice A2 more.length c2, .agg #[.bool odd.f0, .int .i64 odd.f1, .string odd.f2], .slice A4 cuts.length c4, .int .i64 n] w fun e w' => e = .returned (.bool true) ∧ Below w.heap.size w w' := by
  have HF := Lib.hid (And.intro hraw (And.intro hc1 (And.intro hmore (And.intro hc2 (And.intro hcut hc4)))))
  clear hraw hc1 hmore hc2 hcut hc4
  have HAW := Lib.hid (fun W => columbariumlaw14_awake.calls 100 true W (awake_ok (Nat.le_refl _)))
  have HN1 := Lib.hid (fun W => disk_New.calls n (newB n).1 (newB n).2.1 (newB n).2.2 W rfl)
  have HN2 := Lib.hid (fun W => columbariumref14_New.calls 501 n (newB n).1 (newB n).2.1 (newB n).2.2 W (rnew_eq n (by omega)))
  have hnl := newB_len n
  have HSN := Lib.hid (fun W A0 c0 A1 c1 B0 d0 B1 d1 (x0 : Kd.C Kd.string W A0 (newB n).1.length (newB n).1) (y0 : (newB n).1.length ≤ c0) (x1 : Kd.C k24 W A1 (newB n).2.1.length (newB n).2.1) (y1 : (newB n).2.1.length ≤ c1) (x2 : Kd.C Kd.string W B0 (newB n).1.length (newB n).1) (y2 : (newB n).1.length ≤ d0) (x3 : Kd.C k24 W B1 (newB n).2.1.length (newB n).2.1) (y3 : (newB n).2.1.length ≤ d1) => columbariumref14_Same.calls 200010 _ _ _ _ _ _ _ _ _ _ _ _ true W x0 y0 x1 y1 x2 y2 x3 y3 (rsame_eq (by omega) (by omega)))
  have HP0 := Lib.hid (fun W => (columbariumlaw14_pick.calls _ _ _ W hp0).mono (fun e w' h => (⟨h.1, h.2.below⟩ : e = .returned (.int .i64 pk0) ∧ Below W.heap.size W w')))
  have hkl := newB_len k
  have HD := Lib.hid (show columbariumref14_Do.f 10001 (newB k).1 (newB k).2.1 ml0 = some (su, so, de) by rw [← hdo]; exact rdo_eq hl0 (by omega) (by omega) (by omega))
  have HN3 := Lib.hid (fun W => columbariumref14_New.calls 501 k (newB k).1 (newB k).2.1 (newB k).2.2 W (rnew_eq k (by omega)))
  have HP2 := Lib.hid (fun W => (columbariumlaw14_pick.calls _ _ _ W hp2).mono (fun e w' h => (⟨h.1, h.2.below⟩ : e = .returned (.int .i64 pk2) ∧ Below W.heap.size W w')))
  have HOWN := Lib.hid (rown_eq (su := su) (so := so) (by omega) (by omega))
  have HG := Lib.hid (And.intro hpn (And.intro hm2 (And.intro hml hbs)))
  clear hnl hp0 hkl hdo hp2 hpn hm2 hml hbs hl0
  generalize newB n = rr at *
  obtain ⟨rs, rm, re⟩ := rr
  generalize newB k = rr at *
  obtain ⟨ns, nm, ne⟩ := rr
  by_cases hodd : (200 : Int) < (odd.f2.size : Int)
  · go_enter Try.func3, Try.ntmps3
    go_wp2_with (first
      | (go_at_call 12; with_reducible refine (HAW.out _).mono ?_; rintro e W1 ⟨rfl, hb⟩; have BO1 := Lib.hid (blk_same (heap_alloc_new w (.cells #[.bool odd.f0, .int .i64 odd.f1, .string odd.f2] 24)) hb); have W1B := Lib.hid ((below_alloc (Below.refl w.heap.size w) (.cells #[.bool odd.f0, .int .i64 odd.f1, .string odd.f2] 24)).trans (hb.mono (below_alloc (Below.refl w.heap.size w) (.cells #[.bool odd.f0, .int .i64 odd.f1, .string odd.f2] 24)).size)); clear hb)
      | (go_at_call 13; with_reducible refine (HN1.out _).mono ?_; rintro e W2 ⟨v0_, v1_, rfl, h0, h1, hb⟩; obtain ⟨Ba, da, rfl⟩ := Kd.R_slice h0; obtain ⟨Ea, ea, rfl⟩ := Kd.R_slice h1; have Ha0 := Lib.hid h0; have Ha1 := Lib.hid h1; have W2n := Lib.hid hb; have W2B := Lib.hid (W1B.out.trans (hb.mono (W1B.out).size)); clear hb h0 h1)
      | (go_at_call 14; with_reducible refine (HN2.out _).mono ?_; rintro e W3 ⟨v0_, v1_, rfl, h0, h1, hb⟩; obtain ⟨Bb, db, rfl⟩ := Kd.R_slice h0; obtain ⟨Eb, eb, rfl⟩ := Kd.R_slice h1; have Hb0 := Lib.hid h0; have Hb1 := Lib.hid h1; have W3n := Lib.hid hb; have W3B := Lib.hid ((below_alloc W2B.out (.cells #[.slice Ba rs.length da, .slice Ea rm.length ea] 30)).trans (hb.mono ((below_alloc W2B.out (.cells #[.slice Ba rs.length da, .slice Ea rm.length ea] 30))).size)); have BP := Lib.hid (blk_same (heap_alloc_new W2 (.cells #[.slice Ba rs.length da, .slice Ea rm.length ea] 30)) hb); have Ha2 := Lib.hid (Kd.R_below (Kd.R_alloc Ha0.out _) hb); have Ha3 := Lib.hid (Kd.R_below (Kd.R_alloc Ha1.out _) hb); have bp_0 := (fun o : Obj => (blk_cell (blk_alloc BP.out o) 0).trans rfl); have bp_1 := (fun o : Obj => (blk_cell (blk_alloc BP.out o) 1).trans rfl); have BO3 := Lib.hid (blk_same (blk_alloc (blk_same BO1.out W2n.out) (.cells #[.slice Ba rs.length da, .slice Ea rm.length ea] 30)) hb); have bo_0 := (fun o : Obj => (blk_cell (blk_alloc BO3.out o) 0).trans rfl); have bo_1 := (fun o : Obj => (blk_cell (blk_alloc BO3.out o) 1).trans rfl); have bo_2 := (fun o : Obj => (blk_cell (blk_alloc BO3.out o) 2).trans rfl); clear hb h0 h1)
      | (go_at_call 15; with_reducible refine (HSN.out _ _ _ _ _ _ _ _ _ (Kd.R_reads' (Kd.R_alloc Ha2.out _)).2.2 (Kd.R_reads' Ha2.out).2.1 (Kd.R_reads' (Kd.R_alloc Ha3.out _)).2.2 (Kd.R_reads' Ha3.out).2.1 (Kd.R_reads' (Kd.R_alloc Hb0.out _)).2.2 (Kd.R_reads' Hb0.out).2.1 (Kd.R_reads' (Kd.R_alloc Hb1.out _)).2.2 (Kd.R_reads' Hb1.out).2.1).mono ?_; rintro e W4 ⟨rfl, hb⟩; have W4n := Lib.hid hb; have W4B := Lib.hid ((below_alloc W3B.out _).trans (hb.mono (below_alloc W3B.out _).size)); have BO4 := Lib.hid (blk_same (blk_alloc BO3.out (.cells #[.slice Bb rs.length db, .slice Eb rm.length eb] 30)) hb); have BP4 := Lib.hid (blk_same (blk_alloc BP.out (.cells #[.slice Bb rs.length db, .slice Eb rm.length eb] 30)) hb); have BQ4 := Lib.hid (blk_same (heap_alloc_new W3 (.cells #[.slice Bb rs.length db, .slice Eb rm.length eb] 30)) hb); have bp4_0 := (blk_cell BP4.out 0).trans rfl; have bp4_1 := (blk_cell BP4.out 1).trans rfl; have bq4_0 := (blk_cell BQ4.out 0).trans rfl; have bq4_1 := (blk_cell BQ4.out 1).trans rfl; have bo4_0 := (blk_cell BO4.out 0).trans rfl; have bo4_1 := (blk_cell BO4.out 1).trans rfl; have bo4_2 := (blk_cell BO4.out 2).trans rfl; clear hb)
      | (go_at_call 15; with_reducible refine (HSN.out _ _ _ _ _ _ _ _ _ (Kd.R_reads' (Kd.R_below (Kd.R_alloc Ha2.out _) W4n.out)).2.2 (Kd.R_reads' Ha2.out).2.1 (Kd.R_reads' (Kd.R_below (Kd.R_alloc Ha3.out _) W4n.out)).2.2 (Kd.R_reads' Ha3.out).2.1 (Kd.R_reads' (Kd.R_below (Kd.R_alloc Hb0.out _) W4n.out)).2.2 (Kd.R_reads' Hb0.out).2.1 (Kd.R_reads' (Kd.R_below (Kd.R_alloc Hb1.out _) W4n.out)).2.2 (Kd.R_reads' Hb1.out).2.1).mono ?_; rintro e W5 ⟨rfl, hb⟩; have W5B := Lib.hid (W4B.out.trans (hb.mono W4B.out.size)); clear hb))
    go_ret
    exact ⟨rfl, W5B.out⟩
  go_enter Try.func3, Try.ntmps3
  go_wp2_with (first
    | (go_at_call 12; with_reducible refine (HAW.out _).mono ?_; rintro e W1 ⟨rfl, hb⟩; have BO1 := Lib.hid (blk_same (heap_alloc_new w (.cells #[.bool odd.f0, .int .i64 odd.f1, .string odd.f2] 24)) hb); have W1B := Lib.hid ((below_alloc (Below.refl w.heap.size w) (.cells #[.bool odd.f0, .int .i64 odd.f1, .string odd.f2] 24)).trans (hb.mono (below_alloc (Below.refl w.heap.size w) (.cells #[.bool odd.f0, .int .i64 odd.f1, .string odd.f2] 24)).size)); clear hb)
    | (go_at_call 13; with_reducible refine (HN1.out _).mono ?_; rintro e W2 ⟨v0_, v1_, rfl, h0, h1, hb⟩; obtain ⟨Ba, da, rfl⟩ := Kd.R_slice h0; obtain ⟨Ea, ea, rfl⟩ := Kd.R_slice h1; have Ha0 := Lib.hid h0; have Ha1 := Lib.hid h1; have W2n := Lib.hid hb; have W2B := Lib.hid (W1B.out.trans (hb.mono (W1B.out).size)); clear hb h0 h1)
    | (go_at_call 14; with_reducible refine (HN2.out _).mono ?_; rintro e W3 ⟨v0_, v1_, rfl, h0, h1, hb⟩; obtain ⟨Bb, db, rfl⟩ := Kd.R_slice h0; obtain ⟨Eb, eb, rfl⟩ := Kd.R_slice h1; have Hb0 := Lib.hid h0; have Hb1 := Lib.hid h1; have W3n := Lib.hid hb; have W3B := Lib.hid ((below_alloc W2B.out (.cells #[.slice Ba rs.length da, .slice Ea rm.length ea] 30)).trans (hb.mono ((below_alloc W2B.out (.cells #[.slice Ba rs.length da, .slice Ea rm.length ea] 30))).size)); have BP := Lib.hid (blk_same (heap_alloc_new W2 (.cells #[.slice Ba rs.length da, .slice Ea rm.length ea] 30)) hb); have Ha2 := Lib.hid (Kd.R_below (Kd.R_alloc Ha0.out _) hb); have Ha3 := Lib.hid (Kd.R_below (Kd.R_alloc Ha1.out _) hb); have bp_0 := (fun o : Obj => (blk_cell (blk_alloc BP.out o) 0).trans rfl); have bp_1 := (fun o : Obj => (blk_cell (blk_alloc BP.out o) 1).trans rfl); have BO3 := Lib.hid (blk_same (blk_alloc (blk_same BO1.out W2n.out) (.cells #[.slice Ba rs.length da, .slice Ea rm.length ea] 30)) hb); have bo_0 := (fun o : Obj => (blk_cell (blk_alloc BO3.out o) 0).trans rfl); have bo_1 := (fun o : Obj => (blk_cell (blk_alloc BO3.out o) 1).trans rfl); have bo_2 := (fun o : Obj => (blk_cell (blk_alloc BO3.out o) 2).trans rfl); clear hb h0 h1)
    | (go_at_call 15; with_reducible refine (HSN.out _ _ _ _ _ _ _ _ _ (Kd.R_reads' (Kd.R_alloc Ha2.out _)).2.2 (Kd.R_reads' Ha2.out).2.1 (Kd.R_reads' (Kd.R_alloc Ha3.out _)).2.2 (Kd.R_reads' Ha3.out).2.1 (Kd.R_reads' (Kd.R_alloc Hb0.out _)).2.2 (Kd.R_reads' Hb0.out).2.1 (Kd.R_reads' (Kd.R_alloc Hb1.out _)).2.2 (Kd.R_reads' Hb1.out).2.1).mono ?_; rintro e W4 ⟨rfl, hb⟩; have W4n := Lib.hid hb; have W4B := Lib.hid ((below_alloc W3B.out _).trans (hb.mono (below_alloc W3B.out _).size)); have BO4 := Lib.hid (blk_same (blk_alloc BO3.out (.cells #[.slice Bb rs.length db, .slice Eb rm.length eb] 30)) hb); have BP4 := Lib.hid (blk_same (blk_alloc BP.out (.cells #[.slice Bb rs.length db, .slice Eb rm.length eb] 30)) hb); have BQ4 := Lib.hid (blk_same (heap_alloc_new W3 (.cells #[.slice Bb rs.length db, .slice Eb rm.length eb] 30)) hb); have bp4_0 := (blk_cell BP4.out 0).trans rfl; have bp4_1 := (blk_cell BP4.out 1).trans rfl; have bq4_0 := (blk_cell BQ4.out 0).trans rfl; have bq4_1 := (blk_cell BQ4.out 1).trans rfl; have bo4_0 := (blk_cell BO4.out 0).trans rfl; have bo4_1 := (blk_cell BO4.out 1).trans rfl; have bo4_2 := (blk_cell BO4.out 2).trans rfl; clear hb)
    | (go_at_call 16; with_reducible refine (HP0.out _).mono ?_; rintro e W5 ⟨rfl, hb⟩; have W5n := Lib.hid hb; have W5B := Lib.hid (W4B.out.trans (hb.mono W4B.out.size)); have BO5 := Lib.hid (blk_same BO4.out hb); clear hb)
    | (go_at_call 14; (try rw [hk]); with_reducible refine (HN3.out _).mono ?_; rintro e W6 ⟨v0_, v1_, rfl, h0, h1, hb⟩; obtain ⟨Bd, dd, rfl⟩ := Kd.R_slice h0; obtain ⟨Ed, ed, rfl⟩ := Kd.R_slice h1; have Hd0 := Lib.hid h0; have Hd1 := Lib.hid h1; have W6B := Lib.hid (W5B.out.trans (hb.mono W5B.out.size)); have BO6 := Lib.hid (blk_same BO5.out hb); clear hb h0 h1 h6 hk bo4_0 bo4_1 bo4_2 bp4_0 bp4_1 bq4_0 bq4_1 BP4 BQ4 BO4 W4B W4n W5n W5B BO5 bp_0 bp_1 bo_0 bo_1 bo_2 BP Ha2 Ha3 BO3 Ha0 Ha1 Hb0 Hb1 W3B W2B W3n W2n W1B BO1))
  refine dt3_r8 W6.heap.size fm 10001 w _ (by exact fun c a N v w h => h) (below_alloc W6B.out _) W6B.out.size (heap_alloc_new W6 _) (Kd.R_reads' (Kd.R_alloc Hd0.out _)).2.2 (Kd.R_reads' Hd0.out).2.1 (Kd.R_reads' (Kd.R_alloc Hd1.out _)).2.2 (Kd.R_reads' Hd1.out).2.1 (Kd.C_below HF.out.1 (below_alloc W6B.out _)) HF.out.2.1 hm0 HD.out ?_
  intro Bz dz Ez ez v85 v86 v87 v88 v89 v90 v91 v92 W7 hb7 hbd hz0 hz1 hz2 hz3 hkeep
  have hne9 : w.heap.size ≠ W6.heap.size := by have := Go.Proofs.YtcfinlmocgbnbaaW.PrintWords.blk_lt BO6.out; omega
  have BO7 := Lib.hid (hkeep w.heap.size _ hne9 (blk_alloc BO6.out _))
  have BD7 := Lib.hid hbd
  have W7B := Lib.hid hb7
  have HZ := Lib.hid (And.intro hz0 (And.intro hz1 (And.intro hz2 hz3)))
  clear hb7 hbd hz0 hz1 hz2 hz3 hkeep hne9 W6B BO6 Hd0 Hd1 HD HN3 HN1 HN2 HSN HAW HP0 hm0
  have bd_0 := (blk_cell BD7.out 0).trans rfl
  have bd_1 := (blk_cell BD7.out 1).trans rfl
  by_cases hzero : pk2 = 0
  · go_wp2_with (first
      | (go_at_call 19; with_reducible refine (columbariumref14_Own.calls _ _ su _ _ so su so _ HZ.out.1 HZ.out.2.1 HZ.out.2.2.1 HZ.out.2.2.2 HOWN.out).mono ?_; rintro e W8 ⟨v0_, v1_, rfl, h0, h1, hb⟩; obtain ⟨gs, dz2, rfl, hgs, _, _⟩ := Kd.R_form h0 (by omega); obtain ⟨Eo, eo, rfl⟩ := Kd.R_slice h1; have Z0 := Lib.hid h0; have Z1 := Lib.hid h1; have W8n := Lib.hid hb; clear hb h0 h1 bd_0 bd_1)
      | (go_at_call 16; with_reducible refine (HP2.out _).mono ?_; rintro e W9 ⟨rfl, hb⟩; have B21 := Lib.hid (blk_same (heap_alloc_new W8 (.cells #[.slice (some ⟨gs, 0, none⟩) su.length dz2, .slice Eo so.length eo] 30)) hb); have W9n := Lib.hid (below_step (below_alloc W8n.out (.cells #[.slice (some ⟨gs, 0, none⟩) su.length dz2, .slice Eo so.length eo] 30)) hb); have Y0 := Lib.hid (Kd.R_below (Kd.R_alloc Z0.out (.cells #[.slice (some ⟨gs, 0, none⟩) su.length dz2, .slice Eo so.length eo] 30)) hb); have Y1 := Lib.hid (Kd.R_below (Kd.R_alloc Z1.out (.cells #[.slice (some ⟨gs, 0, none⟩) su.length dz2, .slice Eo so.length eo] 30)) hb); clear Z0 Z1 hb; have bz_0 := (blk_cell B21.out 0).trans rfl; have bz_1 := (blk_cell B21.out 1).trans rfl; have bf_0 := blk_frozen B21.out 0; have bf_1 := blk_frozen B21.out 1; have BO9 := Lib.hid (blk_same BO7.out W9n.out); have bo_0 := (blk_cell BO9.out 0).trans rfl; have bo_1 := (blk_cell BO9.out 1).trans rfl; have bo_2 := (blk_cell BO9.out 2).trans rfl)
      | ((with_reducible refine gate_builtin (b := .append) (xs := #[.tmp 99, .tmp 101]) rfl ?_); at_builtin; refine Kd.R_append k24 (w0 := W7) W7.heap.size rfl (.tmp 99) (.tmp 101) 28 24 (.agg #[(.bool false), (.int .i64 0), (.string ⟨#[]⟩)]) 32 rfl Try.underlying28 info24 rfl (by decide) (by omega) (.slice Eo so.length eo) so odd [.bool odd.f0, .int .i64 odd.f1, .string odd.f2] (fun _ => True) (fun _ => False) rfl rfl (k24_mkM _ _ _ odd) (fun _ hk => hk.elim) (fun _ _ => trivial) Y1.out W9n.out W9n.out.size (by omega) ?_; intro v11 W10 ho hb hg hat; obtain ⟨Ex, ex, rfl⟩ := Kd.R_slice ho; have B21b := Lib.hid ((hg.block W8.heap.size (Go.Proofs.YtcfinlmocgbnbaaW.PrintWords.blk_lt B21.out) (Kd.R_ne Y1.out B21.out (by decide))).trans B21.out); have X0 := Lib.hid (Kd.R_over' Y0.out (Kd.R_typed Y1.out) (by decide) hg); have X1 := Lib.hid ho; have W10n := Lib.hid hb; clear ho hb hg hat bz_0 bz_1 bf_0 bf_1 bo_0 bo_1 bo_2; have bf_1 := blk_frozen B21b.out 1; have bz_1 := (blk_cell B21b.out 1).trans rfl)
      | (with_reducible refine wpList_load_row rfl 30 (.tmp 19) rfl W6.heap.size rfl 30 (#[.slice Bz su.length dz, .slice Ez so.length ez]) (0, 0) _ (blk_same BD7.out (below_set W10n.out W8n.out.size)) Try.underlying30 rfl (by kernel_rfl) ?_; generalize hX : World.setCell W10 _ _ = X; have BZX := (show Hid (X.heap[W8.heap.size]? = some (.cells #[.slice (some ⟨gs, 0, none⟩) su.length dz2, .slice Ex (so ++ [odd]).length ex] 30 (0, 0))) from Lib.hid (by rw [show (so ++ [odd]).length = so.length + 1 by simp, ← hX]; exact set1_two B21b.out _)); have XR0 := (show Hid (Kd.string.R 9 X W7.heap.size (fun _ => True) (.slice (some ⟨gs, 0, none⟩) su.length dz2) su) from Lib.hid (by rw [← hX]; exact Kd.R_set X0.out B21b.out (by decide) 1 _)); have XR1 := (show Hid (k24.R 24 X W7.heap.size (fun _ => True) (.slice Ex (so ++ [odd]).length ex) (so ++ [odd])) from Lib.hid (by rw [← hX]; exact Kd.R_set X1.out B21b.out (by decide) 1 _)); have W7X := (show Hid (Below W7.heap.size W7 X) from Lib.hid (by rw [← hX]; exact below_set W10n.out (W8n.out.size))); clear hX X0 X1 B21b W10n bz_1 bf_1; have bz_0 := (blk_cell BZX.out 0).trans rfl; have bz_1 := (blk_cell BZX.out 1).trans rfl; have bd_0 := (blk_cell (blk_same BD7.out W7X.out) 0).trans rfl; have bd_1 := (blk_cell (blk_same BD7.out W7X.out) 1).trans rfl))
    generalize hL : World.alloc X _ = L
    have LB0 : Below X.heap.size X L := by rw [← hL]; exact below_alloc (Below.refl _ _) _
    have RL := Lib.hid (show L.heap[X.heap.size]? = some (.cells #[.slice Bz su.length dz, .slice Ez so.length ez, .slice (some ⟨gs, 0, none⟩) su.length dz2, .slice Ex (so ++ [odd]).length ex] 30 (0, 0)) by rw [show (so ++ [odd]).length = so.length + 1 by simp, ← hL]; exact heap_alloc_new X _)
    have LB := Lib.hid (W7X.out.trans (LB0.mono W7X.out.size))
    have BL := Lib.hid (blk_same (blk_same BO7.out W7X.out) LB0)
    have HT := Lib.hid (two_disks RL.out (Kd.C_below HZ.out.1 LB.out) HZ.out.2.1 (Kd.C_below HZ.out.2.2.1 LB.out) HZ.out.2.2.2 (Kd.R_reads' (Kd.R_below XR0.out LB0)).2.2 (Kd.R_reads' XR0.out).2.1 (Kd.R_reads' (Kd.R_below XR1.out LB0)).2.2 (Kd.R_reads' XR1.out).2.1 (by omega) (by omega) (by omega) (by simp; omega))
    have WL := Lib.hid (W7B.out.trans (LB.out.mono W7B.out.size))
    clear hL LB0 RL XR0 XR1 BZX W7X LB bz_0 bz_1 bd_0 bd_1 HZ BD7 BO7
    go_loopw [113] (fun v Y => ∃ i : Nat, i ≤ 2 ∧ v = .int .i64 (i : Int) ∧ Below L.heap.size L Y) (fun v _ => 2 - (intOf v).toNat)
    case atStart => exact ⟨0, by omega, rfl, Below.refl _ _⟩
    case round =>
      obtain ⟨i, hi, rfl, hXi⟩ := hrel
      by_cases hlt : i < 2
      · obtain ⟨xs, ys, A, c, B, d, hr0, hr1, e0, l0, e1, l1, m0, m1⟩ := HT.out i hlt
        have hw := WL.out.trans (hXi.mono WL.out.size)
        refine dt3_round i X.heap.size _ w.heap.size hlt fm2 fb _ (by exact fun c a m v w h => h) HG.out.2.1 HG.out.2.2.2 HG.out.2.2.1 m0 m1 (hr0 _ hXi) (hr1 _ hXi) (blk_same BL.out hXi) (Kd.C_below e0 hXi) l0 (Kd.C_below e1 hXi) l1 (Kd.C_below HF.out.2.2.1 hw) HF.out.2.2.2.1 HG.out.1 (Kd.C_below HF.out.2.2.2.2.1 hw) HF.out.2.2.2.2.2 ?_
        intro v12 v23 v25 v26 v27 v28 v29 v31 v32 v33 v34 v35 v36 v37 v38 v39 v114 v115 v116 v117 v118 v119 v120 v121 v122 v123 v124 v125 v126 v127 v128 v129 v130 v131 v132 v133 v134 v135 v136 v137 v138 v139 v140 v141 v142 v143 v144 v145 v146 v147 v148 v149 v150 v151 v152 v153 v154 v155 v156 v157 v158 v159 v160 v161 v162 v163 v164 v165 v166 v167 v168 v169 v170 v171 v172 v173 v174 v175 v176 v177 v178 v179 v180 v181 v182 v183 v184 v185 v186 v187 v188 v189 v190 v191 v192 v193 v194 v195 v196 v197 v198 v199 v200 v201 v202 v203 v204 v205 v206 v207 v208 v209 v210 v211 v212 v213 v214 W' hB'
        refine ⟨⟨_, _, _, _, _, _, _, _, _, _, _, _, _, _, _, _, _, _, _, _, _, _, _, _, _, _, _, _, _, _, _, _, _, _, _, _, _, _, _, _, _, _, _, _, _, _, _, _, _, _, _, _, _, _, _, _, _, _, _, _, _, _, _, _, _, _, _, _, _, _, _, _, _, _, _, _, _, _, _, _, _, _, _, _, _, _, _, _, _, _, _, _, _, _, _, _, _, _, _, _, _, _, _, _, _, _, _, _, _, _, _, _, _, _, _, _, _, _, ⟨i + 1, ?_, ?_, hXi.trans (hB'.mono hXi.size)⟩, rfl⟩, ?_⟩
        · omega
        · exact congrArg (Value.int .i64) (by omega)
        · simp [intOf]; omega
      · obtain rfl : i = 2 := by omega
        have e2 : ((2 : Nat) : Int) = 2 := rfl
        rw [e2]
        clear e2
        have hw := WL.out.trans (hXi.mono WL.out.size)
        go_wp2
        go_ret
        exact ⟨rfl, hw⟩
  · go_wp2_with (first
      | (go_at_call 19; with_reducible refine (columbariumref14_Own.calls _ _ su _ _ so su so _ HZ.out.1 HZ.out.2.1 HZ.out.2.2.1 HZ.out.2.2.2 HOWN.out).mono ?_; rintro e W8 ⟨v0_, v1_, rfl, h0, h1, hb⟩; obtain ⟨gs, dz2, rfl, hgs, _, _⟩ := Kd.R_form h0 (by omega); obtain ⟨Eo, eo, rfl⟩ := Kd.R_slice h1; have Z0 := Lib.hid h0; have Z1 := Lib.hid h1; have W8n := Lib.hid hb; clear hb h0 h1 bd_0 bd_1)
      | (go_at_call 16; with_reducible refine (HP2.out _).mono ?_; rintro e W9 ⟨rfl, hb⟩; have B21 := Lib.hid (blk_same (heap_alloc_new W8 (.cells #[.slice (some ⟨gs, 0, none⟩) su.length dz2, .slice Eo so.length eo] 30)) hb); have W9n := Lib.hid (below_step (below_alloc W8n.out (.cells #[.slice (some ⟨gs, 0, none⟩) su.length dz2, .slice Eo so.length eo] 30)) hb); have Y0 := Lib.hid (Kd.R_below (Kd.R_alloc Z0.out (.cells #[.slice (some ⟨gs, 0, none⟩) su.length dz2, .slice Eo so.length eo] 30)) hb); have Y1 := Lib.hid (Kd.R_below (Kd.R_alloc Z1.out (.cells #[.slice (some ⟨gs, 0, none⟩) su.length dz2, .slice Eo so.length eo] 30)) hb); clear Z0 Z1 hb; have bz_0 := (blk_cell B21.out 0).trans rfl; have bz_1 := (blk_cell B21.out 1).trans rfl; have bf_0 := blk_frozen B21.out 0; have bf_1 := blk_frozen B21.out 1; have BO9 := Lib.hid (blk_same BO7.out W9n.out); have bo_0 := (blk_cell BO9.out 0).trans rfl; have bo_1 := (blk_cell BO9.out 1).trans rfl; have bo_2 := (blk_cell BO9.out 2).trans rfl; obtain ⟨⟨s0_, hs0⟩, hf0⟩ := str_cell Y0.out (by omega))
      | (with_reducible refine wpList_load_row rfl 30 (.tmp 19) rfl W6.heap.size rfl 30 (#[.slice Bz su.length dz, .slice Ez so.length ez]) (0, 0) _ (blk_same BD7.out (below_set W9n.out hgs)) Try.underlying30 rfl (by kernel_rfl) ?_; generalize hX : World.setCell W9 _ _ = X; have BZX := (show Hid (X.heap[W8.heap.size]? = some (.cells #[.slice (some ⟨gs, 0, none⟩) (su.set 0 odd.f2).length dz2, .slice Eo so.length eo] 30 (0, 0))) from Lib.hid (by rw [List.length_set, ← hX]; exact Go.Proofs.YtcfinlmocgbnbaaW.PrintWords.blk_far B21.out (fun e => absurd (by rw [e]; simp [Value.ownBlock]) (Kd.R_ne Y0.out B21.out (by decide))) _)); have XR0 := (show Hid (Kd.string.R 9 X W7.heap.size (fun _ => True) (.slice (some ⟨gs, 0, none⟩) (su.set 0 odd.f2).length dz2) (su.set 0 odd.f2)) from Lib.hid (by rw [List.length_set, ← hX]; exact (str_put Y0.out odd.f2).1)); have XR1 := (show Hid (k24.R 24 X W7.heap.size (fun _ => True) (.slice Eo so.length eo) so) from Lib.hid (by rw [← hX]; exact Kd.R_over' Y1.out (Kd.R_typed Y0.out) (by decide) (by simpa [Value.ownBlock] using (str_put Y0.out odd.f2).2))); have W7X := (show Hid (Below W7.heap.size W7 X) from Lib.hid (by rw [← hX]; exact below_set W9n.out hgs)); clear hX hs0 hf0 bz_0 bz_1 bf_0 bf_1; have bz_0 := (blk_cell BZX.out 0).trans rfl; have bz_1 := (blk_cell BZX.out 1).trans rfl; have bd_0 := (blk_cell (blk_same BD7.out W7X.out) 0).trans rfl; have bd_1 := (blk_cell (blk_same BD7.out W7X.out) 1).trans rfl))
    generalize hL : World.alloc X _ = L
    have LB0 : Below X.heap.size X L := by rw [← hL]; exact below_alloc (Below.refl _ _) _
    have RL := Lib.hid (show L.heap[X.heap.size]? = some (.cells #[.slice Bz su.length dz, .slice Ez so.length ez, .slice (some ⟨gs, 0, none⟩) (su.set 0 odd.f2).length dz2, .slice Eo so.length eo] 30 (0, 0)) by rw [List.length_set, ← hL]; exact heap_alloc_new X _)
    have LB := Lib.hid (W7X.out.trans (LB0.mono W7X.out.size))
    have BL := Lib.hid (blk_same (blk_same BO7.out W7X.out) LB0)
    have HT := Lib.hid (two_disks RL.out (Kd.C_below HZ.out.1 LB.out) HZ.out.2.1 (Kd.C_below HZ.out.2.2.1 LB.out) HZ.out.2.2.2 (Kd.R_reads' (Kd.R_below XR0.out LB0)).2.2 (Kd.R_reads' XR0.out).2.1 (Kd.R_reads' (Kd.R_below XR1.out LB0)).2.2 (Kd.R_reads' XR1.out).2.1 (by omega) (by omega) (by simp; omega) (by omega))
    have WL := Lib.hid (W7B.out.trans (LB.out.mono W7B.out.size))
    clear hL LB0 RL XR0 XR1 BZX W7X LB bz_0 bz_1 bd_0 bd_1 HZ BD7 BO7
    go_loopw [113] (fun v Y => ∃ i : Nat, i ≤ 2 ∧ v = .int .i64 (i : Int) ∧ Below L.heap.size L Y) (fun v _ => 2 - (intOf v).toNat)
    case atStart => exact ⟨0, by omega, rfl, Below.refl _ _⟩
    case round =>
      obtain ⟨i, hi, rfl, hXi⟩ := hrel
      by_cases hlt : i < 2
      · obtain ⟨xs, ys, A, c, B, d, hr0, hr1, e0, l0, e1, l1, m0, m1⟩ := HT.out i hlt
        have hw := WL.out.trans (hXi.mono WL.out.size)
        refine dt3_round i X.heap.size _ w.heap.size hlt fm2 fb _ (by exact fun c a m v w h => h) HG.out.2.1 HG.out.2.2.2 HG.out.2.2.1 m0 m1 (hr0 _ hXi) (hr1 _ hXi) (blk_same BL.out hXi) (Kd.C_below e0 hXi) l0 (Kd.C_below e1 hXi) l1 (Kd.C_below HF.out.2.2.1 hw) HF.out.2.2.2.1 HG.out.1 (Kd.C_below HF.out.2.2.2.2.1 hw) HF.out.2.2.2.2.2 ?_
        intro v12 v23 v25 v26 v27 v28 v29 v31 v32 v33 v34 v35 v36 v37 v38 v39 v114 v115 v116 v117 v118 v119 v120 v121 v122 v123 v124 v125 v126 v127 v128 v129 v130 v131 v132 v133 v134 v135 v136 v137 v138 v139 v140 v141 v142 v143 v144 v145 v146 v147 v148 v149 v150 v151 v152 v153 v154 v155 v156 v157 v158 v159 v160 v161 v162 v163 v164 v165 v166 v167 v168 v169 v170 v171 v172 v173 v174 v175 v176 v177 v178 v179 v180 v181 v182 v183 v184 v185 v186 v187 v188 v189 v190 v191 v192 v193 v194 v195 v196 v197 v198 v199 v200 v201 v202 v203 v204 v205 v206 v207 v208 v209 v210 v211 v212 v213 v214 W' hB'
        refine ⟨⟨_, _, _, _, _, _, _, _, _, _, _, _, _, _, _, _, _, _, _, _, _, _, _, _, _, _, _, _, _, _, _, _, _, _, _, _, _, _, _, _, _, _, _, _, _, _, _, _, _, _, _, _, _, _, _, _, _, _, _, _, _, _, _, _, _, _, _, _, _, _, _, _, _, _, _, _, _, _, _, _, _, _, _, _, _, _, _, _, _, _, _, _, _, _, _, _, _, _, _, _, _, _, _, _, _, _, _, _, _, _, _, _, _, _, _, _, _, _, ⟨i + 1, ?_, ?_, hXi.trans (hB'.mono hXi.size)⟩, rfl⟩, ?_⟩
        · omega
        · exact congrArg (Value.int .i64) (by omega)
        · simp [intOf]; omega
      · obtain rfl : i = 2 := by omega
        have e2 : ((2 : Nat) : Int) = 2 := rfl
        rw [e2]
        clear e2
        have hw := WL.out.trans (hXi.mono WL.out.size)
        go_wp2
        go_ret
        exact ⟨rfl, hw⟩
end Go.Proofs.Ytcfinlmocgbnbaa.Pr
end
