/-
  DiskBlocks' plain law. Condition: the numbers are int's.
-/
import Derived.Test.YtcfinlmocgbnbaaDisk
import Derived.Test.YtcfinlmocgbnbaaOpen67
import Derived.Test.YtcfinlmocgbnbaaPrFcolumbariumlaw14DiskBlocks
set_option linter.unusedVariables false
set_option linter.unusedSimpArgs false
namespace Go.Proofs.Ytcfinlmocgbnbaa.Pure
open Go.RowKit Go.Proofs.Ytcfinlmocgbnbaa.Pr Go.Proofs.YtcfinlmocgbnbaaW.PrintWords Go.Proofs.YtcfinlmocgbnbaaW.PrintLast Go.Proofs.YtcfinlmocgbnbaaW.PrintMore
theorem wr_nextB (i : Nat) (h : i < 1000000) : wrap64 ((i : Int) + 1) = ((i + 1 : Nat) : Int) := by unfold wrap64; omega
theorem rd_setB {la : List ByteArray} {x : ByteArray} {i b : Nat} (hi : i < la.length) : rdOf ByteArray.empty (la.set i x) (b : Int) = if i = b then x else rdOf ByteArray.empty la b := by
  unfold rdOf
  rw [Int.toNat_natCast, List.getD_eq_getElem?_getD, List.getD_eq_getElem?_getD, List.getElem?_set]
  by_cases h : i = b
  · subst h
    simp [hi]
  · simp [h]
/-- Two ways to cut that agree at all moves but those to one block. -/
def Al (k : Int) : List S24 → (Nat → Int) → Nat → (Nat → Int) → Nat → Prop
  | [], _, _, _, _ => True
  | m :: so, A, i, B, j => if m.f1 = k then Al k so A (i + 1) B j else A i = B j ∧ Al k so A (i + 1) B (j + 1)
def notK (k : Int) (m : S24) : Bool := decide (m.f1 ≠ k)
theorem al_const (k : Int) (c : Int) : ∀ (so : List S24) (i j : Nat), Al k so (fun _ => c) i (fun _ => c) j
  | [], _, _ => trivial
  | m :: so, i, j => by
    unfold Al
    split
    · exact al_const k c so _ _
    · exact ⟨rfl, al_const k c so _ _⟩
/-- Two disks that agree but for one block. -/
structure Agree (k : Int) (n : Nat) (sa sb : List ByteArray) : Prop where
  la : sa.length = n
  lb : sb.length = n
  eq : ∀ b : Nat, (b : Int) ≠ k → rdOf ByteArray.empty sa b = rdOf ByteArray.empty sb b
theorem fall_agree {k : Int} {n : Nat} : ∀ (oa : List S24) (sa sb : List ByteArray) (A : Nat → Int) (i : Nat) (B : Nat → Int) (j : Nat), Agree k n sa sb → (∀ m ∈ oa, 0 ≤ m.f1 ∧ m.f1 < n) → Al k oa A i B j → Agree k n (fall sa oa A i) (fall sb (oa.filter (notK k)) B j)
  | [], sa, sb, A, i, B, j, h, _, _ => h
  | m :: oa, sa, sb, A, i, B, j, h, hm, hal => by
    obtain ⟨m0, m1⟩ := hm m (by simp)
    obtain ⟨x, hx⟩ : ∃ x : Nat, m.f1 = x := ⟨m.f1.toNat, by omega⟩
    have h1 := h.la
    have h2 := h.lb
    have hput : ∀ (s : List ByteArray) (c : Int) (b : Nat), s.length = n → rdOf ByteArray.empty (put1 s m c) b = if x = b then (m.f2.extract 0 c.toNat ++ (rdOf ByteArray.empty s x).extract c.toNat (rdOf ByteArray.empty s x).size) else rdOf ByteArray.empty s b := fun s c b hs => by
      unfold put1
      rw [hx, Int.toNat_natCast]
      exact rd_setB (by omega)
    unfold Al at hal
    by_cases hk : m.f1 = k
    · rw [if_pos hk] at hal
      rw [List.filter_cons_of_neg (by simp [notK, hk])]
      refine fall_agree oa _ sb A (i + 1) B j ⟨by rw [put1_len]; exact h1, h2, fun b hb => ?_⟩ (fun x hx => hm x (by simp [hx])) hal
      rw [hput sa _ b h1, if_neg (by omega), h.eq b hb]
    · rw [if_neg hk] at hal
      rw [List.filter_cons_of_pos (by simp [notK, hk])]
      refine fall_agree oa _ _ A (i + 1) B (j + 1) ⟨by rw [put1_len]; exact h1, by rw [put1_len]; exact h2, fun b hb => ?_⟩ (fun x hx => hm x (by simp [hx])) hal.2
      rw [hput sa _ b h1, hput sb _ b h2, hal.1, h.eq b hb, h.eq x (by omega)]
def cutRaw (cuts : List Int) (j : Nat) : Int := if (j : Int) < cuts.length then rd cuts j else 0
def ownL (cuts : List Int) (k : Int) : List S24 → Nat → List Int
  | [], _ => []
  | m :: so, j => if m.f1 = k then ownL cuts k so (j + 1) else cutRaw cuts j :: ownL cuts k so (j + 1)
theorem ownL_snoc (cuts : List Int) (k : Int) : ∀ (so : List S24) (m : S24) (j : Nat), ownL cuts k (so ++ [m]) j = ownL cuts k so j ++ (if m.f1 = k then [] else [cutRaw cuts (j + so.length)])
  | [], m, j => by simp only [List.nil_append, ownL, List.length_nil, Nat.add_zero]
  | x :: so, m, j => by
    simp only [List.cons_append, ownL]
    rw [ownL_snoc cuts k so m (j + 1), show j + 1 + so.length = j + (x :: so).length by simp only [List.length_cons]; omega]
    split <;> rfl
theorem ownL_len (cuts : List Int) (k : Int) : ∀ (so : List S24) (j : Nat), (ownL cuts k so j).length ≤ so.length
  | [], j => Nat.le_refl _
  | x :: so, j => by
    have := ownL_len cuts k so (j + 1)
    simp only [ownL]
    split <;> simp <;> omega
theorem cutOf_raw (cuts : List Int) (i : Nat) (pre rest : List Int) : cutOf cuts i = cutOf (pre ++ cutRaw cuts i :: rest) pre.length := by
  unfold cutOf
  rw [if_neg (show ¬ ((pre.length : Int) ≥ ((pre ++ cutRaw cuts i :: rest).length : Int)) by simp; omega)]
  have e : rd (pre ++ cutRaw cuts i :: rest) (pre.length : Int) = cutRaw cuts i := by
    unfold rd
    simp
  rw [e]
  unfold cutRaw
  by_cases h : (i : Int) < cuts.length
  · rw [if_neg (by omega), if_pos h]
  · rw [if_pos (by omega), if_neg h]
    rfl
theorem al_own (cuts : List Int) (k : Int) : ∀ (so : List S24) (i : Nat) (pre : List Int), Al k so (cutOf cuts) i (cutOf (pre ++ ownL cuts k so i)) pre.length
  | [], _, _ => trivial
  | m :: so, i, pre => by
    unfold Al
    by_cases hk : m.f1 = k
    · rw [if_pos hk]
      simp only [ownL, hk, if_true]
      exact al_own cuts k so (i + 1) pre
    · rw [if_neg hk]
      simp only [ownL, hk, if_false]
      refine ⟨cutOf_raw cuts i pre _, ?_⟩
      have := al_own cuts k so (i + 1) (pre ++ [cutRaw cuts i])
      simpa using this
theorem last_agree {k : Int} {n : Nat} {sa sb : List ByteArray} (h : Agree k n sa sb) (oa : List S24) (b : Nat) (hb : (b : Int) ≠ k) : lastB sa oa b = lastB sb (oa.filter (notK k)) b := by
  unfold lastB
  rw [← List.filter_reverse, List.find?_filter]
  have e : (fun a : S24 => decide (notK k a = true ∧ decide (a.f1 = (b : Int)) = true)) = fun a => decide (a.f1 = (b : Int)) := by
    funext a
    unfold notK
    by_cases ha : a.f1 = (b : Int)
    · simp [ha, hb]
    · simp [ha]
  rw [e]
  cases oa.reverse.find? (fun a => decide (a.f1 = (b : Int))) with
  | some m => rfl
  | none => exact h.eq b hb
theorem runL_app : ∀ (l1 l2 : List S24) (su : List ByteArray) (so : List S24), runL su so (l1 ++ l2) = runL (runL su so l1).1 (runL su so l1).2 l2
  | [], _, _, _ => rfl
  | m :: l1, l2, su, so => by
    simp only [List.cons_append, runL]
    split <;> exact runL_app l1 l2 _ _
/-- What holds after the moves pre: some of them without those to block k, and the cuts that go with what is left. -/
structure Half (cuts : List Int) (k : Int) (S0 : List ByteArray) (pre sm : List S24) (own : List Int) (mm : Nat) (sa : List ByteArray) (oa : List S24) (sb : List ByteArray) : Prop where
  ra : runL S0 [] pre = (sa, oa)
  rb : runL S0 [] sm = (sb, oa.filter (notK k))
  ag : Agree k 6 sa sb
  da : Dsk 6 sa oa
  db : Dsk 6 sb (oa.filter (notK k))
  ow : own = ownL cuts k oa 0
  mm : mm = oa.length
  gs : ∀ m ∈ sm, Pr.Good 6 m
  sl : sm.length ≤ pre.length
  ol : oa.length ≤ pre.length
theorem half_sync {cuts : List Int} {k : Int} {S0 : List ByteArray} {pre sm : List S24} {own : List Int} {mm : Nat} {sa : List ByteArray} {oa : List S24} {sb : List ByteArray} (h : Half cuts k S0 pre sm own mm sa oa sb) {m : S24} (hm : Pr.Good 6 m) (hs : m.f0 = true) :
    Half cuts k S0 (pre ++ [m]) (sm ++ [m]) [] 0 (fall sa oa (fun _ => 64) 0) [] (fall sb (oa.filter (notK k)) (fun _ => 64) 0) where
  ra := by rw [runL_app, h.ra]; simp [runL, hs]
  rb := by rw [runL_app, h.rb]; simp [runL, hs]
  ag := fall_agree oa sa sb _ 0 _ 0 h.ag (fun m hm => by have := h.da.fits.blk m hm; have := h.da.len; omega) (al_const k 64 oa 0 0)
  da := dsk_fall h.da (fun _ => by omega)
  db := dsk_fall h.db (fun _ => by omega)
  ow := rfl
  mm := rfl
  gs := fun x hx => by
    rcases List.mem_append.1 hx with hx | hx
    · exact h.gs x hx
    · obtain rfl : x = m := by simpa using hx
      exact hm
  sl := by have := h.sl; simp; omega
  ol := by simp
theorem half_k {cuts : List Int} {k : Int} {S0 : List ByteArray} {pre sm : List S24} {own : List Int} {mm : Nat} {sa : List ByteArray} {oa : List S24} {sb : List ByteArray} (h : Half cuts k S0 pre sm own mm sa oa sb) {m : S24} (hm : Pr.Good 6 m) (hs : m.f0 = false) (hk : m.f1 = k) (hp : pre.length < 3000) :
    Half cuts k S0 (pre ++ [m]) sm own (mm + 1) sa (oa ++ [m]) sb where
  ra := by rw [runL_app, h.ra]; simp [runL, hs]
  rb := by rw [List.filter_append, List.filter_cons_of_neg (by simp [notK, hk]), List.filter_nil, List.append_nil]; exact h.rb
  ag := h.ag
  da := dsk_app h.da hm hs (by have := h.ol; omega)
  db := by rw [List.filter_append, List.filter_cons_of_neg (by simp [notK, hk]), List.filter_nil, List.append_nil]; exact h.db
  ow := by rw [ownL_snoc, if_pos hk, List.append_nil]; exact h.ow
  mm := by have := h.mm; simp; omega
  gs := h.gs
  sl := by have := h.sl; simp; omega
  ol := by have := h.ol; simp; omega
theorem half_o {cuts : List Int} {k : Int} {S0 : List ByteArray} {pre sm : List S24} {own : List Int} {mm : Nat} {sa : List ByteArray} {oa : List S24} {sb : List ByteArray} (h : Half cuts k S0 pre sm own mm sa oa sb) {m : S24} (hm : Pr.Good 6 m) (hs : m.f0 = false) (hk : m.f1 ≠ k) (hp : pre.length < 3000) :
    Half cuts k S0 (pre ++ [m]) (sm ++ [m]) (own ++ [cutRaw cuts mm]) (mm + 1) sa (oa ++ [m]) sb where
  ra := by rw [runL_app, h.ra]; simp [runL, hs]
  rb := by rw [List.filter_append, List.filter_cons_of_pos (by simp [notK, hk]), List.filter_nil, runL_app, h.rb]; simp [runL, hs]
  ag := h.ag
  da := dsk_app h.da hm hs (by have := h.ol; omega)
  db := by
    rw [List.filter_append, List.filter_cons_of_pos (by simp [notK, hk]), List.filter_nil]
    exact dsk_app h.db hm hs (by have := h.ol; have := List.length_filter_le (notK k) oa; omega)
  ow := by rw [ownL_snoc, if_neg hk, Nat.zero_add, ← h.ow, ← h.mm]
  mm := by have := h.mm; simp; omega
  gs := fun x hx => by
    rcases List.mem_append.1 hx with hx | hx
    · exact h.gs x hx
    · obtain rfl : x = m := by simpa using hx
      exact hm
  sl := by have := h.sl; simp; omega
  ol := by have := h.ol; simp; omega
theorem blocks_l1 {k : Int} {sa sb xs ys : List ByteArray} {oa ob : List S24} (da : Dsk 6 sa oa) (db : Dsk 6 sb ob) (dx : Dsk 6 xs []) (dy : Dsk 6 ys []) (hl : ∀ b : Nat, (b : Int) ≠ k → lastB sa oa b = lastB sb ob b) (hx : Agree k 6 xs ys) : ∀ (d i q : Nat), i + d = 6 → d < q →
    columbariumlaw14_DiskBlocks.l1 q true k i sa oa sb ob xs [] ys [] = some true
  | 0, i, q, h, hq => by
    obtain ⟨q, rfl⟩ : ∃ m, q = m + 1 := ⟨q - 1, by omega⟩
    simp only [columbariumlaw14_DiskBlocks.l1]
    rw [if_neg (by omega)]
  | d + 1, i, q, h, hq => by
    obtain ⟨q, rfl⟩ : ∃ m, q = m + 1 := ⟨q - 1, by omega⟩
    have e1 := hx.la
    have e2 := hx.lb
    simp only [columbariumlaw14_DiskBlocks.l1]
    rw [if_pos (by omega), read_ok da (by omega) (by omega) (show (0 : Int) ≤ i by omega) (by omega), Option.bind_some, read_ok db (by omega) (by omega) (show (0 : Int) ≤ i by omega) (by omega), Option.bind_some]
    dsimp only
    rw [if_pos rfl, if_pos rfl, wr_nextB i (by omega)]
    by_cases hk : (i : Int) = k
    · rw [if_pos hk]
      exact blocks_l1 da db dx dy hl hx d (i + 1) q (by omega) (by omega)
    · rw [if_neg hk, if_pos (by rw [hl i hk]), if_pos (by omega), if_pos (by omega), if_pos (by omega), if_pos (by rw [hx.eq i hk])]
      exact blocks_l1 da db dx dy hl hx d (i + 1) q (by omega) (by omega)
theorem blocks_l0 {cuts : List Int} {k : Int} {ms : List S24} (hml : ms.length ≤ 30) (hmg : ∀ m ∈ ms, Pr.Good 6 m) : ∀ (d i q : Nat) (sm : List S24) (own : List Int) (mm : Nat) (sa : List ByteArray) (oa : List S24) (sb : List ByteArray), i + d = ms.length → 5 * d + 20 < q →
    Half cuts k (List.replicate 6 Pr.blank) (ms.take i) sm own mm sa oa sb → columbariumlaw14_DiskBlocks.l0 q cuts true 0 k ms sm own mm i (List.replicate 6 Pr.blank) [] = some true
  | 0, i, q, sm, own, mm, sa, oa, sb, h, hq, H => by
    obtain ⟨q, rfl⟩ : ∃ m, q = m + 1 + 1 := ⟨q - 2, by omega⟩
    obtain rfl : i = ms.length := by omega
    have hra := H.ra
    rw [List.take_length] at hra
    have hsl := H.sl
    rw [List.length_take] at hsl
    obtain ⟨d1, D1, _⟩ := do_ok (dsk_new 6) (by omega) (by omega) hmg (by simp; omega)
    obtain ⟨d2, D2, _⟩ := do_ok (dsk_new 6) (by omega) (by omega) H.gs (by simp; omega)
    rw [hra] at d1
    rw [H.rb] at d2
    obtain ⟨c1, C1⟩ := crash_ok H.da (by omega) (by omega) cuts
    obtain ⟨c2, C2⟩ := crash_ok H.db (by omega) (by omega) own
    have hag := fall_agree oa sa sb (cutOf cuts) 0 (cutOf own) 0 H.ag (fun m hm => by have := H.da.fits.blk m hm; have := H.da.len; omega) (by rw [H.ow]; exact al_own cuts k oa 0 [])
    simp only [columbariumlaw14_DiskBlocks.l0]
    rw [if_neg (by omega), d1, Option.bind_some, d2, Option.bind_some]
    dsimp only
    rw [c1, Option.bind_some, c2, Option.bind_some]
    simp only [if_true]
    have e1 := hag.la
    have e2 := hag.lb
    rw [if_pos (by omega)]
    simp only [columbariumlaw14_DiskBlocks.j5]
    rw [show (((fall sb (List.filter (notK k) oa) (cutOf own) 0).length : Int) != 6) = false by simp; omega]
    simp only [Bool.false_eq_true, if_false]
    exact blocks_l1 H.da H.db C1 C2 (fun b hb => last_agree H.ag oa b hb) hag 6 0 q (by omega) (by omega)
  | d + 1, i, q, sm, own, mm, sa, oa, sb, h, hq, H => by
    obtain ⟨q, rfl⟩ : ∃ m, q = m + 1 + 1 + 1 + 1 := ⟨q - 4, by omega⟩
    have hi : i < ms.length := by omega
    have hmm : ms[i] ∈ ms := List.getElem_mem hi
    have hg := hmg _ hmm
    have htake : ms.take (i + 1) = ms.take i ++ [ms[i]] := by rw [List.take_add_one, List.getElem?_eq_getElem hi]; rfl
    have hpl : (ms.take i).length < 3000 := by rw [List.length_take]; omega
    have hsl := H.sl
    have hol := H.ol
    have hmz := H.mm
    have how := ownL_len cuts k oa 0
    rw [← H.ow] at how
    have h0 : (0 : Int) ≤ i := by omega
    have h1 : (i : Int) < ms.length := by omega
    have hil : (ms.take i).length ≤ i := by rw [List.length_take]; omega
    have hsm : sm.length < 4398046511104 := by omega
    have how2 : own.length < 17592186044416 := by omega
    have hmw : wrap64 ((mm : Int) + 1) = ((mm + 1 : Nat) : Int) := wr_nextB mm (by omega)
    have hmm0 : (0 : Int) ≤ mm := by omega
    have heta : (⟨ms[i].f0, ms[i].f1, ms[i].f2⟩ : S24) = ms[i] := rfl
    cases hs : ms[i].f0
    · obtain ⟨q, rfl⟩ : ∃ m, q = m + 1 := ⟨q - 1, by omega⟩
      simp only [columbariumlaw14_DiskBlocks.l0, columbariumlaw14_DiskBlocks.j1, columbariumlaw14_DiskBlocks.j2, columbariumlaw14_DiskBlocks.j3, columbariumlaw14_DiskBlocks.j4]
      rw [rd24_get hi, wr_nextB i (by omega)]
      simp only [h0, h1, hsm, how2, hmw, hmm0, heta, if_true]
      simp only [hs]
      by_cases hk : ms[i].f1 = k
      · simp only [hk, Bool.false_eq_true, if_false, if_true, bne_self_eq_false]
        refine blocks_l0 hml hmg d (i + 1) _ _ _ _ sa (oa ++ [ms[i]]) sb (by omega) (by omega) ?_
        rw [htake]
        exact half_k H hg hs hk hpl
      · have hkb : (ms[i].f1 != k) = true := by simpa using hk
        have HN := half_o H hg hs hk hpl
        rw [← htake] at HN
        unfold cutRaw at HN
        by_cases hc : (mm : Int) < cuts.length
        · rw [if_pos hc] at HN
          simp only [hk, hkb, hc, decide_true, Bool.false_eq_true, if_false, if_true]
          exact blocks_l0 hml hmg d (i + 1) _ _ _ _ sa (oa ++ [ms[i]]) sb (by omega) (by omega) HN
        · rw [if_neg hc] at HN
          simp only [hk, hkb, hc, decide_false, Bool.false_eq_true, if_false, if_true]
          exact blocks_l0 hml hmg d (i + 1) _ _ _ _ sa (oa ++ [ms[i]]) sb (by omega) (by omega) HN
    · simp only [columbariumlaw14_DiskBlocks.l0, columbariumlaw14_DiskBlocks.j1, columbariumlaw14_DiskBlocks.j2, columbariumlaw14_DiskBlocks.j3]
      rw [rd24_get hi, wr_nextB i (by omega)]
      simp only [h0, h1, hsm, how2, hmw, hmm0, heta, if_true]
      simp only [hs, if_true]
      have HN := half_sync H hg hs
      rw [← htake] at HN
      exact blocks_l0 hml hmg d (i + 1) _ _ _ 0 _ _ _ (by omega) (by omega) HN
theorem blocks_true (l0 : List S67) (a1 : Int) (l2 : List Int) (h0 : wfR l0) (h1 : I64 a1) : ∃ k, columbariumlaw14_DiskBlocks.f k l0 a1 l2 = some true := by
  obtain ⟨p, hp, p0, p1⟩ := pick_eq h1 (show (0 : Int) < 6 by omega) (by omega)
  obtain ⟨k, hk⟩ : ∃ k : Nat, 5000 < k := ⟨5001, by omega⟩
  obtain ⟨ms, hms, hml, hmg⟩ := moves_eq h0 (n := 6) (by omega) (by omega) (k := k) (by omega)
  refine ⟨k, ?_⟩
  unfold columbariumlaw14_DiskBlocks.f
  rw [awake_ok (by omega), Option.bind_some, show (6 : Int) = ((6 : Nat) : Int) from rfl, new_ok (by omega) (by omega), Option.bind_some]
  rw [show ((6 : Nat) : Int) = 6 from rfl] at hms ⊢
  rw [hp, Option.bind_some, hms, Option.bind_some]
  refine blocks_l0 hml hmg ms.length 0 k [] [] 0 (List.replicate 6 Pr.blank) [] (List.replicate 6 Pr.blank) (by omega) (by omega) ?_
  exact ⟨rfl, rfl, ⟨by simp, by simp, fun _ _ => rfl⟩, dsk_new 6, dsk_new 6, rfl, rfl, (fun m hm => by cases hm), by simp, by simp⟩
theorem DiskBlocks (l0 : List S67) (a1 : Int) (l2 : List Int) (h1 : l0.length ≤ maxLen) (h2 : wf67 l0) (h0 : (Lit.int .i64 a1).wf = true) (h3 : l2.length ≤ maxLen) (h4 : ∀ x ∈ l2, (Lit.int .i64 x).wf = true) : ∃ k, columbariumlaw14_DiskBlocks.f k l0 a1 l2 = some true :=
  blocks_true l0 a1 l2 (fun x hx => ⟨i64_of (h2 x hx).1, i64_of (h2 x hx).2.1, i64_of (h2 x hx).2.2⟩) (i64_of h0)
end Go.Proofs.Ytcfinlmocgbnbaa.Pure
