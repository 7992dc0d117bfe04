/-
  TapeTells: the tape and its second writing answer alike, asked one by one, and Turn refuses more than 1000 things: the law returns true for every input. No condition.
-/
import Derived.Test.YtmkncddbecmlpaaPrFcolumbariumlaw07TapeTells
import Derived.Test.YtmkncddbecmlpaaXAwake
set_option linter.unusedVariables false
namespace Go.Proofs.Ytmkncddbecmlpaa.Pure
open Go.RowKit Go.Proofs.Ytmkncddbecmlpaa.Pr Go.Proofs.YtmkncddbecmlpaaW.PrintWords Go.Proofs.YtmkncddbecmlpaaW.PrintLast Go.Proofs.YtmkncddbecmlpaaW.PrintMore

/-- What Turn answers, whatever the tape. -/
def turnP (b : ByteArray) (p : Int) (L : List Int) : Option (List Int × ByteArray × Int × Int) :=
  if rightB b p = true then (if (L.length : Int) > 1000 then some ([], b, p, 2) else tape_Turn.rest b p L b p L) else some ([], b, p, 1)
theorem turnP_eq (b : ByteArray) (p : Int) (L : List Int) : tape_Turn.f b p L = turnP b p L := by
  unfold tape_Turn.f turnP
  rw [right_eq]
  simp only [Option.bind_some]
  by_cases h : rightB b p = true
  · rw [if_pos h, if_pos h]
    by_cases h2 : (L.length : Int) > 1000
    · rw [if_pos h2, if_pos h2]
    · rw [if_neg h2, if_neg h2, show slices_Clone_int_int.f L = some L from by unfold slices_Clone_int_int.f; rw [if_pos (by omega)]]
      rfl
  · rw [if_neg h, if_neg h]

theorem rloop_ok {b0 b : ByteArray} {p0 p : Int} {n : Nat} {L : List Int} (hn : L.length = n) (hn2 : n ≤ 1000) (r : Nat) : ∀ (j k : Nat) (ls : List Int) (bs : ByteArray) (ps : Int), k + j + 1 = n → turnRun n k (L, b, p) = .inl (ls, bs, ps) →
    columbariumref07_Turn.l0 (r + j + 3) ls j b0 p0 bs ps = (match turnRun n (n - 1) (L, b, p) with | .inl s => some (s.1, s.2.1, s.2.2, 0) | .inr e => some ([], b0, p0, e))
  | 0, k, ls, bs, ps, hk, h => by
    have e : n - 1 = k := by omega
    rw [e, h]
    show columbariumref07_Turn.l0 (r + 2 + 1) ls 0 b0 p0 bs ps = _
    rw [columbariumref07_Turn.l0, if_neg (by omega)]
  | j + 1, k, ls, bs, ps, hk, h => by
    have hll : ls.length = n := (turnRun_len h).trans hn
    have hstep : turnRun n (k + 1) (L, b, p) = turnStep (ls, bs, ps) (((j + 1 : Nat) : Int)) := by
      simp only [turnRun]
      rw [h]
      simp only []
      congr 1
      omega
    have he := @numP_err bs ps (((j + 1 : Nat) : Int) + 1) (by omega)
    rw [show r + (j + 1) + 3 = (r + j + 1 + 2) + 1 from by omega, columbariumref07_Turn.l0, if_pos (by omega), show wrap64 (((j + 1 : Nat) : Int) + 1) = ((j + 1 : Nat) : Int) + 1 from by unfold wrap64; omega, rnumber_eq]
    simp only [Option.bind_some]
    unfold turnStep at hstep
    by_cases h0 : (numP bs ps (((j + 1 : Nat) : Int) + 1)).2.2.2 = 0
    · obtain ⟨q0, q1⟩ := he h0
      simp only [] at hstep
      rw [if_pos h0] at hstep
      rw [if_pos h0, if_pos q0, if_pos (by omega), if_pos (by omega), if_pos (by omega), show wrap64 (((j + 1 : Nat) : Int) - 1) = (j : Int) from by unfold wrap64; omega]
      exact rloop_ok hn hn2 r j (k + 1) _ _ _ (by omega) hstep
    · simp only [] at hstep
      rw [if_neg h0] at hstep
      rw [if_neg h0]
      have h3 := turnRun_stop hstep (n - 1 - (k + 1))
      rw [show k + 1 + (n - 1 - (k + 1)) = n - 1 from by omega] at h3
      rw [h3]
theorem rturn_eq (b : ByteArray) (p : Int) (L : List Int) (hL : L.length ≤ 60) (k : Nat) : columbariumref07_Turn.f (k + 70) b p L = turnP b p L := by
  unfold columbariumref07_Turn.f turnP
  rw [rright_eq]
  simp only [Option.bind_some]
  by_cases h : rightB b p = true
  · rw [if_pos h, if_pos h, if_neg (by omega), if_pos (by simp; omega), if_neg (by omega)]
    simp only [List.nil_append]
    cases hn : L.length with
    | zero =>
      have : L = [] := List.eq_nil_of_length_eq_zero hn
      subst this
      rw [show wrap64 (((0 : Nat) : Int) - 1) = -1 from by unfold wrap64; omega]
      rw [columbariumref07_Turn.l0, if_neg (by omega)]
      rfl
    | succ m =>
      rw [show wrap64 (((m + 1 : Nat) : Int) - 1) = (m : Int) from by unfold wrap64; omega]
      have := rloop_ok (b0 := b) (p0 := p) (b := b) (p := p) (L := L) hn (by omega) (k + 67 - m) m 0 L b p (by omega) rfl
      rw [show k + 67 - m + m + 3 = k + 70 from by omega] at this
      rw [this]
      unfold tape_Turn.rest
      rw [hn]
      cases turnRun (m + 1) (m + 1 - 1) (L, b, p) <;> rfl
  · rw [if_neg h, if_neg h]
theorem turnP_some (b : ByteArray) (p : Int) (L : List Int) : ∃ r, turnP b p L = some r ∧ r.1.length ≤ L.length := by
  unfold turnP
  split
  · split
    · exact ⟨_, rfl, by simp⟩
    · unfold tape_Turn.rest
      cases h : turnRun L.length (L.length - 1) (L, b, p) with
      | inl s => exact ⟨_, rfl, by rw [turnRun_len h]; exact Nat.le_refl _⟩
      | inr e => exact ⟨_, rfl, by simp⟩
  · exact ⟨_, rfl, by simp⟩

theorem ints_loop (L : List Int) (hL : L.length ≤ 1000) (r : Nat) : ∀ (d i : Nat), i + d = L.length → columbariumref07_Ints.l0 (r + d + 1) L L i = some true
  | 0, i, h => by rw [columbariumref07_Ints.l0, if_neg (by omega)]
  | d + 1, i, h => by
    rw [columbariumref07_Ints.l0, if_pos (by omega), if_pos (by omega), if_pos (by omega), if_pos rfl, show wrap64 ((i : Int) + 1) = ((i + 1 : Nat) : Int) from by unfold wrap64; omega]
    exact ints_loop L hL r d (i + 1) (by omega)
theorem ints_eq (L : List Int) (hL : L.length ≤ 60) (k : Nat) : columbariumref07_Ints.f (k + 70) L L = some true := by
  unfold columbariumref07_Ints.f
  rw [if_pos rfl, show k + 70 = (k + 69 - L.length) + L.length + 1 from by omega]
  exact ints_loop L (by omega) _ _ 0 (by omega)

theorem l1_end (x0 : ByteArray) (x1 x3 : Int) (x11 : Bool) (L : List Int) (hL : L.length ≤ 60) (x48 : List S23) (x49 x50 : Int) (ys : List Int) (b : ByteArray) (p : Int) (m : Nat) :
    columbariumlaw07_TapeTells.l1 (m + 70 + 1) x0 x1 x3 x11 L x48 x49 x50 ys 2 2 b p = columbariumlaw07_TapeTells.l0 (m + 70) x0 x1 x3 x11 L x48 x49 (wrap64 (x50 + 1)) := by
  rw [columbariumlaw07_TapeTells.l1, if_neg (by omega), turnP_eq, rturn_eq _ _ _ hL]
  obtain ⟨r, hr, hl⟩ := turnP_some b p L
  rw [hr]
  simp only [Option.bind_some]
  rw [ints_eq _ (by omega)]
  simp
theorem l1_step (x0 : ByteArray) (x1 x3 : Int) (x11 : Bool) (L : List Int) (x48 : List S23) (x49 x50 : Int) (ys : List Int) (hy : ys.length = 2) (hw : ∀ y ∈ ys, y ≤ 9223372036854775807) (b : ByteArray) (p : Int) (j : Int) (h0 : 0 ≤ j) (h1 : j < 2) (m : Nat) :
    columbariumlaw07_TapeTells.l1 (m + 2 + 1) x0 x1 x3 x11 L x48 x49 x50 ys 2 j b p = columbariumlaw07_TapeTells.l1 (m + 2) x0 x1 x3 x11 L x48 x49 x50 ys 2 (j + 1) b p := by
  have hr : rd ys j ≤ 9223372036854775807 := by
    refine hw _ ?_
    unfold rd
    rw [List.getD_eq_getElem?_getD, List.getElem?_eq_getElem (by omega : j.toNat < ys.length)]
    exact List.getElem_mem _
  rw [columbariumlaw07_TapeTells.l1, if_pos h1, if_pos h0, if_pos (by omega), take_eq, rtake_eq _ _ _ hr, number_eq, rnumber_eq]
  simp only [Option.bind_some]
  rw [show wrap64 (j + 1) = j + 1 from by unfold wrap64; omega]
  simp
/-- One tape: both answer alike; on to the next. -/
theorem l0_step (x0 : ByteArray) (x1 x3 : Int) (h3 : (Lit.int .i64 x3).wf = true) (x11 : Bool) (L : List Int) (hL : L.length ≤ 60) (x48 : List S23) (i : Nat) (hi : i < x48.length) (hi2 : x48.length ≤ 2) (m : Nat) :
    ∃ m', m ≤ m' ∧ columbariumlaw07_TapeTells.l0 (m + 75) x0 x1 x3 x11 L x48 (x48.length : Int) i = columbariumlaw07_TapeTells.l0 (m' + 70) x0 x1 x3 x11 L x48 (x48.length : Int) ((i + 1 : Nat) : Int) := by
  have hb := bounds_i64 h3
  have hwi : wrap64 ((i : Int) + 1) = ((i + 1 : Nat) : Int) := by unfold wrap64; omega
  rw [show m + 75 = (m + 70 + 1 + 1 + 1 + 1) + 1 from by omega, columbariumlaw07_TapeTells.l0, if_pos (by omega), if_pos (by omega), if_pos (by omega)]
  split
  · exact ⟨m + 4, by omega, by rw [hwi]⟩
  · refine ⟨m, Nat.le_refl _, ?_⟩
    rw [right_eq, rright_eq]
    simp only [Option.bind_some]
    rw [if_neg (by simp), left_eq, rleft_eq]
    simp only [Option.bind_some, bne_self_eq_false]
    obtain ⟨q, hq, q0, q1⟩ := pick_eq (n := 9) h3 (by omega) (by omega)
    rw [columbariumlaw07_TapeTells.j1, if_neg (by simp), hq]
    simp only [Option.bind_some]
    have hy : ∀ y ∈ [x3, q], y ≤ 9223372036854775807 := by
      intro y hy
      simp only [List.mem_cons, List.not_mem_nil, or_false] at hy
      rcases hy with rfl | rfl <;> omega
    have s1 := l1_step x0 x1 x3 x11 L x48 x48.length i [x3, q] rfl hy ((rd_T23 x48 i).f0) ((rd_T23 x48 i).f1) 0 (by omega) (by omega) (m + 70)
    have s2 := l1_step x0 x1 x3 x11 L x48 x48.length i [x3, q] rfl hy ((rd_T23 x48 i).f0) ((rd_T23 x48 i).f1) 1 (by omega) (by omega) (m + 69)
    have s3 := l1_end x0 x1 x3 x11 L hL x48 x48.length i [x3, q] ((rd_T23 x48 i).f0) ((rd_T23 x48 i).f1) m
    rw [hwi] at s3
    exact s1.trans (s2.trans s3)

theorem TapeTells (a0 : ByteArray) (a1 : Int) (a2_0 : ByteArray) (a2_1 a3 : Int) (l4 : List Int) (h0 : a0.size ≤ 140737488351232) (h1 : (Lit.int .i64 a1).wf = true) (h3 : (Lit.int .i64 a3).wf = true) (h4 : l4.length ≤ maxLen) :
    ∃ k, columbariumlaw07_TapeTells.f k a0 a1 a2_0 a2_1 a3 l4 = some true := by
  refine ⟨85, ?_⟩
  obtain ⟨b, p, ht, hb, hp, hp2, hr⟩ := tape_eq a0 h1 h0
  have hm : 0 ≤ mn (l4.length : Int) 60 ∧ mn (l4.length : Int) 60 ≤ (l4.length : Int) ∧ mn (l4.length : Int) 60 ≤ 60 := by unfold mn; split <;> omega
  have hL : (l4.take (mn (l4.length : Int) 60).toNat).length ≤ 60 := by rw [List.length_take]; omega
  unfold columbariumlaw07_TapeTells.f
  rw [awake7]
  simp only [Option.bind_some]
  rw [if_pos hm.1, if_pos hm.2.1, ht]
  simp only [Option.bind_some]
  obtain ⟨m1, g1, e1⟩ := l0_step a0 a1 a3 h3 true _ hL [(⟨b, p⟩ : S23), (⟨a2_0, a2_1⟩ : S23)] 0 (by simp) (by simp) 10
  obtain ⟨m2, g2, e2⟩ := l0_step a0 a1 a3 h3 true _ hL [(⟨b, p⟩ : S23), (⟨a2_0, a2_1⟩ : S23)] 1 (by simp) (by simp) (m1 - 5)
  refine (show _ = _ from e1).trans ?_
  rw [show m1 + 70 = m1 - 5 + 75 from by omega]
  refine (show _ = _ from e2).trans ?_
  rw [show m2 + 70 = m2 + 69 + 1 from by omega, columbariumlaw07_TapeTells.l0, if_neg (by simp), ht]
  simp only [Option.bind_some]
  rw [if_pos (by omega), turnP_eq]
  unfold turnP
  rw [if_pos hr, if_pos (by rw [List.length_replicate]; omega)]
  simp
end Go.Proofs.Ytmkncddbecmlpaa.Pure
