/-
  DiskCrashes' plain law. Condition: the numbers are int's.
-/
import Derived.Test.YtcfinlmocgbnbaaDisk
import Derived.Test.YtcfinlmocgbnbaaOpen67
import Derived.Test.YtcfinlmocgbnbaaPrFcolumbariumlaw14DiskCrashesD
set_option linter.unusedVariables false
set_option linter.unusedSimpArgs false
namespace Go.Proofs.Ytcfinlmocgbnbaa.Pure
open Go.RowKit Go.Proofs.Ytcfinlmocgbnbaa.Pr Go.Proofs.YtcfinlmocgbnbaaW.PrintWords Go.Proofs.YtcfinlmocgbnbaaW.PrintLast Go.Proofs.YtcfinlmocgbnbaaW.PrintMore
theorem wr_nextC (i : Nat) (h : i < 1000000) : wrap64 ((i : Int) + 1) = ((i + 1 : Nat) : Int) := by unfold wrap64; omega
theorem runL_appC : ∀ (l1 l2 : List S24) (su : List ByteArray) (so : List S24), runL su so (l1 ++ l2) = runL (runL su so l1).1 (runL su so l1).2 l2
  | [], _, _, _ => rfl
  | m :: l1, l2, su, so => by
    simp only [List.cons_append, runL]
    split <;> exact runL_appC l1 l2 _ _
theorem rd_setC {la : List ByteArray} {x : ByteArray} {i b : Nat} (hi : i < la.length) : rdOf ByteArray.empty (la.set i x) (b : Int) = if i = b then x else rdOf ByteArray.empty la b := by
  unfold rdOf
  rw [Int.toNat_natCast, List.getD_eq_getElem?_getD, List.getD_eq_getElem?_getD, List.getElem?_set]
  by_cases h : i = b
  · subst h
    simp [hi]
  · simp [h]
/-- One byte of a block that was written in part. -/
theorem mix_bt {a b : ByteArray} (ha : a.size = 64) (hb : b.size = 64) {c : Int} (c0 : 0 ≤ c) (c1 : c ≤ 64) {j : Nat} (hj : j < 64) : bt (a.extract 0 c.toNat ++ b.extract c.toNat b.size) j = if (j : Int) < c then bt a j else bt b j := by
  obtain ⟨n, rfl⟩ : ∃ n : Nat, c = n := ⟨c.toNat, by omega⟩
  have e1 : (a.extract 0 n).size = n := by rw [ByteArray.size_extract, ha]; omega
  have e2 : (a.extract 0 n ++ b.extract n b.size).size = 64 := by rw [ByteArray.size_append, e1, ByteArray.size_extract, hb]; omega
  unfold bt
  simp only [Int.toNat_natCast]
  rw [dif_pos (by omega), dif_pos (by omega), dif_pos (by omega)]
  by_cases h : j < n
  · rw [if_pos (by omega), ByteArray.getElem_append_left (by omega)]
    simp [ByteArray.getElem_extract]
  · rw [if_neg (by omega), ByteArray.getElem_append_right (by omega)]
    simp only [ByteArray.getElem_extract, e1]
    congr 2
    congr 1
    omega
/-- A byte after a crash is the byte ahead of it, or that of a thing that was soon to be there. -/
theorem fall_byte : ∀ (so : List S24) (su : List ByteArray) (cut : Nat → Int) (i : Nat), Fits su so → (∀ j, 0 ≤ cut j ∧ cut j ≤ 64) → ∀ (b j : Nat), b < su.length → j < 64 →
    bt (rdOf ByteArray.empty (fall su so cut i) b) j = bt (rdOf ByteArray.empty su b) j ∨ ∃ m ∈ so, m.f1 = b ∧ bt m.f2 j = bt (rdOf ByteArray.empty (fall su so cut i) b) j
  | [], _, _, _, _, _, _, _, _, _ => .inl rfl
  | m :: so, su, cut, i, h, hc, b, j, hb, hj => by
    obtain ⟨m0, m1⟩ := h.blk m (by simp)
    have hm := h.byt m (by simp)
    have F : Fits (put1 su m (cut i)) so := ⟨fun x hx => by rw [put1_len]; exact h.blk x (by simp [hx]), fun x hx => h.byt x (by simp [hx]), put1_sur h.sur ⟨m0, m1⟩ hm (hc i).1 (hc i).2⟩
    show bt (rdOf ByteArray.empty (fall (put1 su m (cut i)) so cut (i + 1)) b) j = _ ∨ ∃ x ∈ m :: so, x.f1 = b ∧ bt x.f2 j = bt (rdOf ByteArray.empty (fall (put1 su m (cut i)) so cut (i + 1)) b) j
    rcases fall_byte so _ cut (i + 1) F hc b j (by rw [put1_len]; exact hb) hj with e | ⟨x, hx, h1, h2⟩
    · obtain ⟨x, hx⟩ : ∃ x : Nat, m.f1 = x := ⟨m.f1.toNat, by omega⟩
      have hp : rdOf ByteArray.empty (put1 su m (cut i)) (b : Int) = if x = b then (m.f2.extract 0 (cut i).toNat ++ (rdOf ByteArray.empty su x).extract (cut i).toNat (rdOf ByteArray.empty su x).size) else rdOf ByteArray.empty su b := by
        unfold put1
        rw [hx, Int.toNat_natCast]
        exact rd_setC (by omega)
      by_cases hxb : x = b
      · subst hxb
        rw [if_pos rfl] at hp
        rw [hp, mix_bt hm (rdS_size h.sur (by omega) (by omega)) (hc i).1 (hc i).2 hj] at e
        by_cases hlt : (j : Int) < cut i
        · rw [if_pos hlt] at e
          exact .inr ⟨m, by simp, hx, e.symm⟩
        · rw [if_neg hlt] at e
          exact .inl e
      · rw [if_neg hxb] at hp
        rw [hp] at e
        exact .inl e
    · exact .inr ⟨x, by simp [hx], h1, h2⟩
theorem put1_zero (su : List ByteArray) (m : S24) : put1 su m 0 = su := by
  unfold put1
  have e : m.f2.extract 0 (0 : Int).toNat ++ (rdOf ByteArray.empty su m.f1).extract (0 : Int).toNat (rdOf ByteArray.empty su m.f1).size = rdOf ByteArray.empty su m.f1 := by simp
  rw [e]
  unfold rdOf
  by_cases h : m.f1.toNat < su.length
  · rw [List.getD_eq_getElem?_getD, List.getElem?_eq_getElem h]
    simp
  · rw [List.set_eq_of_length_le (by omega)]
theorem fall_none : ∀ (so : List S24) (su : List ByteArray) (i : Nat), fall su so (cutOf []) i = su
  | [], _, _ => rfl
  | m :: so, su, i => by
    have e : cutOf [] i = 0 := by unfold cutOf; simp
    simp only [fall]
    rw [e, put1_zero]
    exact fall_none so su (i + 1)
theorem fall_ext : ∀ (so : List S24) (su : List ByteArray) (f g : Nat → Int) (i : Nat), (∀ j, j < i + so.length → f j = g j) → fall su so f i = fall su so g i
  | [], _, _, _, _, _ => rfl
  | m :: so, su, f, g, i, h => by
    simp only [fall]
    rw [h i (by simp), fall_ext so _ f g (i + 1) (fun j hj => h j (by simp; omega))]
/-- The cuts that lose nothing. -/
def allC (i : Nat) : List Int := (List.range i).map fun j : Nat => 64 + (j : Int)
theorem allC_succ (i : Nat) : allC i ++ [64 + (i : Int)] = allC (i + 1) := by unfold allC; rw [List.range_succ, List.map_append]; rfl
theorem allC_len (i : Nat) : (allC i).length = i := by simp [allC]
theorem allC_cut {i j : Nat} (h : j < i) : cutOf (allC i) j = 64 := by
  unfold cutOf
  rw [allC_len, if_neg (by omega)]
  have e : rd (allC i) (j : Int) = 64 + j := by unfold rd allC; simp [h]
  rw [e]
  omega
theorem rd24_getC {l : List S24} {i : Nat} (hi : i < l.length) : rd_T24 l i = l[i] := by unfold rd_T24; simp [hi]
section
variable {n : Nat} {su : List ByteArray} {so : List S24} {xs ws : List ByteArray}
theorem crashes_l3 (D : Dsk n su so) (hw : ws.length = n) (hws : ∀ s ∈ ws, s.size = 64) {b j : Nat} (hb : b < n) (hj : j < 64) (hn : n ≤ 6) (hs : so.length ≤ 30) : ∀ (d i q : Nat) (x : Bool), i + d = so.length → (x = true ∨ ∃ m ∈ so.drop i, m.f1 = b ∧ bt m.f2 j = bt (rdOf ByteArray.empty ws b) j) →
    columbariumlaw14_DiskCrashes.l2 q true n b ((j + 1 : Nat) : Int) su so xs [] ws [] = some true →
    columbariumlaw14_DiskCrashes.l3 (q + 1 + d) true n b j x i su so xs [] ws [] = some true
  | 0, i, q, x, h, hx, hl => by
    have hx' : x = true := by
      rcases hx with hx | ⟨m, hm, _⟩
      · exact hx
      · rw [List.drop_eq_nil_of_le (by omega)] at hm
        cases hm
    subst hx'
    simp only [Nat.add_zero, columbariumlaw14_DiskCrashes.l3]
    rw [if_neg (by omega), if_pos trivial, wr_nextC j (by omega)]
    exact hl
  | d + 1, i, q, x, h, hx, hl => by
    have hi : i < so.length := by omega
    rw [show q + 1 + (d + 1) = (q + 1 + d) + 1 by omega]
    simp only [columbariumlaw14_DiskCrashes.l3]
    rw [if_pos (by omega), wr_nextC i (by omega), rd24_getC hi]
    have hdrop := List.drop_eq_getElem_cons hi
    cases x
    · rw [if_neg (by simp), if_pos (by omega)]
      rcases hx with hx | ⟨m, hm, hm1, hm2⟩
      · cases hx
      have hgm := D.fits.byt _ (List.getElem_mem hi)
      have hsz := rdS_size hws (b := (b : Int)) (by omega) (by omega)
      rw [hdrop] at hm
      by_cases hk : so[i].f1 = b
      · rw [if_pos hk, if_pos (by omega), if_pos (by omega), if_pos (by omega), if_pos (by omega), if_pos (by omega)]
        refine crashes_l3 D hw hws hb hj hn hs d (i + 1) q _ (by omega) ?_ hl
        rcases List.mem_cons.1 hm with rfl | hm
        · exact .inl (by rw [hm2]; simp)
        · exact .inr ⟨m, hm, hm1, hm2⟩
      · rw [if_neg hk]
        refine crashes_l3 D hw hws hb hj hn hs d (i + 1) q _ (by omega) ?_ hl
        rcases List.mem_cons.1 hm with rfl | hm
        · exact absurd hm1 hk
        · exact .inr ⟨m, hm, hm1, hm2⟩
    · rw [if_pos rfl]
      exact crashes_l3 D hw hws hb hj hn hs d (i + 1) q true (by omega) (.inl rfl) hl
theorem crashes_l2 (D : Dsk n su so) (hw : ws.length = n) (hws : ∀ s ∈ ws, s.size = 64) {b : Nat} (hb : b < n) (hn : n ≤ 6) (hs : so.length ≤ 30)
    (hby : ∀ j : Nat, j < 64 → bt (rdOf ByteArray.empty ws b) (j : Int) = bt (rdOf ByteArray.empty su b) j ∨ ∃ m ∈ so, m.f1 = b ∧ bt m.f2 j = bt (rdOf ByteArray.empty ws b) j) : ∀ (d j q : Nat), j + d = 64 →
    columbariumlaw14_DiskCrashes.l1 q true n ((b + 1 : Nat) : Int) su so xs [] ws [] = some true →
    columbariumlaw14_DiskCrashes.l2 (q + 1 + d * (so.length + 2)) true n b j su so xs [] ws [] = some true
  | 0, j, q, h, hl => by
    simp only [Nat.zero_mul, Nat.add_zero, columbariumlaw14_DiskCrashes.l2]
    rw [if_neg (by omega), wr_nextC b (by omega)]
    exact hl
  | d + 1, j, q, h, hl => by
    have hlen := D.len
    have h1 := rdS_size hws (b := (b : Int)) (by omega) (by omega)
    have h2 := rdS_size D.fits.sur (b := (b : Int)) (by omega) (by omega)
    have hj : j < 64 := by omega
    rw [show q + 1 + (d + 1) * (so.length + 2) = (q + 1 + d * (so.length + 2) + 1 + so.length) + 1 by rw [Nat.add_mul]; omega]
    simp only [columbariumlaw14_DiskCrashes.l2]
    rw [if_pos (by omega), if_pos (by omega), if_pos (by omega), if_pos (by omega), if_pos (by omega), if_pos (by omega), if_pos (by omega)]
    refine crashes_l3 D hw hws hb hj hn hs so.length 0 _ _ (by omega) ?_ (crashes_l2 D hw hws hb hn hs hby d (j + 1) q (by omega) hl)
    rcases hby j hj with e | e
    · exact .inl (by rw [e]; simp)
    · exact .inr e
theorem crashes_l1 (D : Dsk n su so) (hw : ws.length = n) (hws : ∀ s ∈ ws, s.size = 64) (hn : n ≤ 6) (hs : so.length ≤ 30)
    (hby : ∀ b j : Nat, b < n → j < 64 → bt (rdOf ByteArray.empty ws b) (j : Int) = bt (rdOf ByteArray.empty su b) j ∨ ∃ m ∈ so, m.f1 = b ∧ bt m.f2 j = bt (rdOf ByteArray.empty ws b) j) : ∀ (d b q : Nat), b + d = n →
    columbariumlaw14_DiskCrashes.l1 (q + 1 + d * (64 * (so.length + 2) + 3)) true n b su so su [] ws [] = some true
  | 0, b, q, h => by
    simp only [Nat.zero_mul, Nat.add_zero, columbariumlaw14_DiskCrashes.l1]
    rw [if_neg (by omega)]
  | d + 1, b, q, h => by
    have hlen := D.len
    have h1 := rdS_size hws (b := (b : Int)) (by omega) (by omega)
    have h2 := rdS_size D.fits.sur (b := (b : Int)) (by omega) (by omega)
    rw [show q + 1 + (d + 1) * (64 * (so.length + 2) + 3) = (q + 1 + d * (64 * (so.length + 2) + 3) + 1 + 64 * (so.length + 2)) + 1 + 1 by rw [Nat.add_mul]; omega]
    simp only [columbariumlaw14_DiskCrashes.l1, columbariumlaw14_DiskCrashes.j4]
    rw [if_pos (by omega), if_pos (by omega), if_pos (by omega), if_pos (by omega), if_pos trivial, if_pos (by omega), if_pos (by omega), show (((rdOf ByteArray.empty su (b : Int)).size : Int) != 64) = false by simp; omega]
    rw [if_neg (by simp)]
    exact crashes_l2 D hw hws (by omega) hn hs (fun j hj => hby b j (by omega) hj) 64 0 _ (by omega) (crashes_l1 D hw hws hn hs hby d (b + 1) q (by omega))
theorem crashes_l0 (D : Dsk n su so) (h1 : 1 ≤ n) (hn : n ≤ 6) (hs : so.length ≤ 30) {cuts : List Int} (hcu : ∀ x ∈ cuts, I64 x) : ∀ (d i q : Nat) (ow : List Int), i + d = so.length → ow.length = i → 20000 < q →
    columbariumlaw14_DiskCrashes.l0 (q + 1 + d) cuts true n (allC i) ow i su so = some true
  | 0, i, q, ow, h, ho, hq => by
    obtain rfl : i = so.length := by omega
    obtain ⟨c1, C1⟩ := crash_ok D h1 (by omega) (allC so.length)
    obtain ⟨c2, C2⟩ := crash_ok D h1 (by omega) []
    obtain ⟨c3, C3⟩ := crash_ok D h1 (by omega) ow
    obtain ⟨d1, D1, _⟩ := do_ok D h1 (by omega) (l := [⟨true, 0, ⟨#[]⟩⟩]) (fun m hm => by (obtain rfl : m = ⟨true, 0, ⟨#[]⟩⟩ := by simpa using hm); exact sync_good n) (by simp; omega)
    have e1 : fall su so (cutOf (allC so.length)) 0 = fall su so (fun _ => 64) 0 := fall_ext so su _ _ 0 (fun j hj => allC_cut (by omega))
    have e2 : runL su so [⟨true, 0, ⟨#[]⟩⟩] = (fall su so (fun _ => 64) 0, []) := by simp [runL]
    rw [e1] at c1 C1
    rw [e2] at d1 D1
    rw [fall_none] at c2 C2
    have hlen := D.len
    have hl3 := C3.len
    simp only [Nat.add_zero, columbariumlaw14_DiskCrashes.l0]
    rw [if_neg (by omega), c1, Option.bind_some, d1, Option.bind_some, c2, Option.bind_some, c3, Option.bind_some]
    simp only [if_true]
    rw [same_ok C1 (by omega) (by omega), Option.bind_some]
    simp only [if_true]
    rw [if_pos (by simp), if_pos (by omega), if_pos (by omega), show ((su.length : Int) != n) = false by simp; omega]
    obtain ⟨q2, rfl⟩ : ∃ q2, q = (q2 + 1 + n * (64 * (so.length + 2) + 3)) + 1 := ⟨q - 2 - n * (64 * (so.length + 2) + 3), by
      have : n * (64 * (so.length + 2) + 3) ≤ 6 * (64 * (30 + 2) + 3) := Nat.mul_le_mul hn (by omega)
      omega⟩
    simp only [columbariumlaw14_DiskCrashes.j2]
    rw [if_neg (by simp)]
    exact crashes_l1 D hl3 C3.fits.sur hn hs (fun b j hb hj => fall_byte so su _ 0 D.fits (cutOf_range ow) b j (by omega) hj) n 0 q2 (by omega)
  | d + 1, i, q, ow, h, ho, hq => by
    rw [show q + 1 + (d + 1) = (q + 1 + d) + 1 by omega]
    simp only [columbariumlaw14_DiskCrashes.l0]
    rw [if_pos (by omega), allC_len, if_pos (by omega), Option.bind_some, wr_nextC i (by omega), show wrap64 (64 + (i : Int)) = 64 + i by unfold wrap64; omega, allC_succ]
    by_cases hc : (i : Int) < cuts.length
    · have hi : i < cuts.length := by omega
      have e : rd cuts (i : Int) = cuts[i] := by unfold rd; simp [hi]
      obtain ⟨p, hp, p0, p1⟩ := pick_eq (hcu _ (List.getElem_mem hi)) (show (0 : Int) < 65 by omega) (by omega)
      rw [if_pos hc, if_pos (by omega), e, hp, Option.bind_some, if_pos (by omega)]
      exact crashes_l0 D h1 hn hs hcu d (i + 1) q _ (by omega) (by simp [ho]) hq
    · rw [if_neg hc, if_pos (by omega)]
      exact crashes_l0 D h1 hn hs hcu d (i + 1) q _ (by omega) (by simp [ho]) hq
end
theorem crashes_true (a0 : Int) (l1 : List S67) (l2 : List Int) (a3 : Int) (h0 : I64 a0) (h1 : wfR l1) (h2 : ∀ x ∈ l2, I64 x) (h3 : I64 a3) : ∃ k, columbariumlaw14_DiskCrashes.f k a0 l1 l2 a3 = some true := by
  obtain ⟨p, hp, p0, p1⟩ := pick_eq h0 (show (0 : Int) < 6 by omega) (by omega)
  obtain ⟨n, hn⟩ : ∃ n : Nat, 1 + p = n := ⟨(1 + p).toNat, by omega⟩
  have hn1 : 1 ≤ n := by omega
  have hn2 : n ≤ 6 := by omega
  have hw : wrap64 (1 + p) = (n : Int) := by unfold wrap64; omega
  obtain ⟨k, hk⟩ : ∃ k : Nat, 25000 < k := ⟨25001, by omega⟩
  obtain ⟨ms, hms, hml, hmg⟩ := moves_eq h1 (n := n) (by omega) hn2 (k := k) (by omega)
  have hw2 : wrap64 ((ms.length : Int) + 1) = (ms.length : Int) + 1 := by unfold wrap64; omega
  obtain ⟨i, hi, i0, i1⟩ := pick_eq h3 (show (0 : Int) < (ms.length : Int) + 1 by omega) (by omega)
  obtain ⟨m, rfl⟩ : ∃ m : Nat, i = m := ⟨i.toNat, by omega⟩
  obtain ⟨d1, D1, z1⟩ := do_ok (dsk_new n) hn1 (by omega) (l := ms.take m) (fun x hx => hmg x (List.mem_of_mem_take hx)) (by simp; omega)
  obtain ⟨d2, D2, z2⟩ := do_ok D1 hn1 (by omega) (l := ms.drop m) (fun x hx => hmg x (List.mem_of_mem_drop hx)) (by simp at z1 ⊢; omega)
  obtain ⟨d3, D3, z3⟩ := do_ok (dsk_new n) hn1 (by omega) hmg (by simp; omega)
  have e := runL_appC (ms.take m) (ms.drop m) (List.replicate n Pr.blank) []
  rw [List.take_append_drop] at e
  rw [← e] at d2
  refine ⟨k, ?_⟩
  unfold columbariumlaw14_DiskCrashes.f
  rw [awake_ok (by omega), Option.bind_some, hp, Option.bind_some, hw, new_ok hn1 (by omega), Option.bind_some, hms, Option.bind_some, hw2, hi, Option.bind_some, if_pos (by omega), if_pos (by omega), Int.toNat_natCast, d1, Option.bind_some, d2, Option.bind_some, d3, Option.bind_some]
  simp only [if_true]
  rw [same_ok D3 (by omega) (by omega), Option.bind_some]
  simp only [List.length_nil, Nat.zero_add] at z3
  obtain ⟨q, hq⟩ : ∃ q, k = (q + 1 + (runL (List.replicate n Pr.blank) [] ms).2.length) + 1 := ⟨k - (runL (List.replicate n Pr.blank) [] ms).2.length - 2, by omega⟩
  have hq2 : 20000 < q := by omega
  rw [hq]
  simp only [columbariumlaw14_DiskCrashes.j0, Bool.not_true, Bool.false_eq_true, if_false]
  exact crashes_l0 D3 hn1 hn2 (by omega) h2 (runL (List.replicate n Pr.blank) [] ms).2.length 0 q [] (by omega) rfl hq2
theorem DiskCrashes (a0 : Int) (l1 : List S67) (l2 : List Int) (a3 : Int) (h0 : (Lit.int .i64 a0).wf = true) (h1 : l1.length ≤ maxLen) (h2 : wf67 l1) (h3 : l2.length ≤ maxLen) (h4 : ∀ x ∈ l2, (Lit.int .i64 x).wf = true) (h5 : (Lit.int .i64 a3).wf = true) : ∃ k, columbariumlaw14_DiskCrashes.f k a0 l1 l2 a3 = some true :=
  crashes_true a0 l1 l2 a3 (i64_of h0) (fun x hx => ⟨i64_of (h2 x hx).1, i64_of (h2 x hx).2.1, i64_of (h2 x hx).2.2⟩) (fun x hx => i64_of (h4 x hx)) (i64_of h5)
end Go.Proofs.Ytcfinlmocgbnbaa.Pure
