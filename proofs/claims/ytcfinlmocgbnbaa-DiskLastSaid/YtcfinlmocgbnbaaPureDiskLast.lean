/-
  DiskLast's plain law. Condition: the numbers are int's.
-/
import Derived.Test.YtcfinlmocgbnbaaDisk
import Derived.Test.YtcfinlmocgbnbaaOpen67
import Derived.Test.YtcfinlmocgbnbaaPrFcolumbariumlaw14DiskLast
set_option linter.unusedVariables false
set_option linter.unusedSimpArgs false
namespace Go.Proofs.Ytcfinlmocgbnbaa.Pure
open Go.RowKit Go.Proofs.Ytcfinlmocgbnbaa.Pr Go.Proofs.YtcfinlmocgbnbaaW.PrintWords Go.Proofs.YtcfinlmocgbnbaaW.PrintLast Go.Proofs.YtcfinlmocgbnbaaW.PrintMore
/-- The last bytes of each block. -/
structure Lasts (n : Nat) (su : List ByteArray) (so : List S24) (la : List ByteArray) : Prop where
  len : la.length = n
  eq : ∀ b : Nat, b < n → rdOf ByteArray.empty la b = lastB su so b
theorem last_app (su : List ByteArray) (so : List S24) (m : S24) (b : Int) : lastB su (so ++ [m]) b = if m.f1 = b then m.f2 else lastB su so b := by
  unfold lastB
  rw [List.reverse_append, List.reverse_singleton, List.singleton_append, List.find?_cons]
  by_cases h : m.f1 = b <;> simp [h]
theorem rd_set {la : List ByteArray} {x : ByteArray} {i b : Nat} (hi : i < la.length) : rdOf ByteArray.empty (la.set i x) (b : Int) = if i = b then x else rdOf ByteArray.empty la b := by
  unfold rdOf
  rw [Int.toNat_natCast, List.getD_eq_getElem?_getD, List.getD_eq_getElem?_getD, List.getElem?_set]
  by_cases h : i = b
  · subst h
    simp [hi]
  · simp [h]
theorem put1_full {su : List ByteArray} {m : S24} (hs : ∀ s ∈ su, s.size = 64) (hb : 0 ≤ m.f1 ∧ m.f1 < su.length) (hm : m.f2.size = 64) : put1 su m 64 = su.set m.f1.toNat m.f2 := by
  unfold put1
  rw [rdS_size hs hb.1 hb.2]
  congr 1
  have e1 : m.f2.extract 0 (64 : Int).toNat = m.f2 := by
    have : (64 : Int).toNat = m.f2.size := by rw [hm]; rfl
    rw [this]
    exact ByteArray.extract_zero_size
  have e2 : (rdOf ByteArray.empty su m.f1).extract (64 : Int).toNat 64 = ByteArray.empty := by
    apply ByteArray.size_eq_zero_iff.1
    rw [ByteArray.size_extract]
    show min 64 _ - 64 = 0
    omega
  rw [e1, e2, ByteArray.append_empty]
theorem fall_last : ∀ (so : List S24) (su : List ByteArray) (i b : Nat), Fits su so → b < su.length → rdOf ByteArray.empty (fall su so (fun _ => 64) i) b = lastB su so b
  | so, su, i, b, h, hb => by
    obtain ⟨r, hr⟩ : ∃ r, so.reverse = r := ⟨_, rfl⟩
    obtain rfl : so = r.reverse := by rw [← hr, List.reverse_reverse]
    clear hr
    induction r with
    | nil => rfl
    | cons m r ih =>
      rw [List.reverse_cons] at h ⊢
      have hf : Fits su r.reverse := ⟨fun x hx => h.blk x (by simp at hx ⊢; exact .inl hx), fun x hx => h.byt x (by simp at hx ⊢; exact .inl hx), h.sur⟩
      have hm := h.blk m (by simp)
      have hl := fall_len r.reverse su (fun _ => 64) i
      rw [last_app, fall_snoc, put1_full (fall_sur r.reverse su _ i hf (fun _ => by omega)) (by rw [hl]; exact hm) (h.byt m (by simp)), rd_set (by rw [hl]; omega), ih hf]
      by_cases e : m.f1 = b
      · rw [if_pos e, if_pos (by omega)]
      · rw [if_neg e, if_neg (by omega)]
theorem strs_blank : strOfNums (List.replicate 64 0) = Pr.blank := rfl
theorem wr_next (i : Nat) (h : i < 1000000) : wrap64 ((i : Int) + 1) = ((i + 1 : Nat) : Int) := by unfold wrap64; omega
theorem last_l0 {n : Nat} (hn : n ≤ 6) (ok : Bool) (e : Int) (ms : List S24) (su : List ByteArray) (so : List S24) : ∀ (d i k : Nat), i + d = n →
    columbariumlaw14_DiskLast.l0 (k + d + 1) ok n e ms (List.replicate i Pr.blank ++ List.replicate d ⟨#[]⟩) i su so = columbariumlaw14_DiskLast.l1 k ok n e ms (List.replicate n Pr.blank) 0 su so
  | 0, i, k, h => by
    simp only [columbariumlaw14_DiskLast.l0]
    rw [if_neg (by omega), List.replicate_zero, List.append_nil]
    rw [show i = n by omega]
  | d + 1, i, k, h => by
    rw [show k + (d + 1) + 1 = (k + d + 1) + 1 by omega]
    simp only [columbariumlaw14_DiskLast.l0]
    rw [if_pos (by omega), if_pos (by omega), if_pos (by omega), if_pos (by simp; omega), strs_blank, wr_next i (by omega)]
    have e1 : (List.replicate i Pr.blank ++ List.replicate (d + 1) (⟨#[]⟩ : ByteArray)).set ((i : Int)).toNat Pr.blank = List.replicate (i + 1) Pr.blank ++ List.replicate d ⟨#[]⟩ := by
      rw [Int.toNat_natCast, List.set_append_right _ _ (by simp), List.length_replicate, Nat.sub_self, List.replicate_succ, List.set_cons_zero, List.replicate_succ', List.append_assoc]
      rfl
    rw [e1]
    exact last_l0 hn ok e ms su so d (i + 1) k (by omega)
theorem last_l2 {n : Nat} (h1 : 1 ≤ n) (hn : n ≤ 6) {su : List ByteArray} {so : List S24} {s2 : List ByteArray} {la : List ByteArray} (D : Dsk n su so) (D2 : Dsk n s2 []) (L : Lasts n su so la) (L2 : ∀ b : Nat, b < n → rdOf ByteArray.empty s2 b = lastB su so b) : ∀ (d i k : Nat), i + d = n →
    columbariumlaw14_DiskLast.l2 (k + d + 1) true n la i su so s2 [] = some true
  | 0, i, k, h => by
    simp only [columbariumlaw14_DiskLast.l2]
    rw [if_neg (by omega)]
  | d + 1, i, k, h => by
    rw [show k + (d + 1) + 1 = (k + d + 1) + 1 by omega]
    simp only [columbariumlaw14_DiskLast.l2]
    have hl := L.len
    have hl2 := D2.len
    have e1 := L.eq i (by omega)
    have e2 := L2 i (by omega)
    have e3 : lastB s2 [] (i : Int) = lastB su so i := e2
    rw [if_pos (by omega), read_ok D h1 (by omega) (show (0 : Int) ≤ i by omega) (by omega), Option.bind_some, read_ok D2 h1 (by omega) (show (0 : Int) ≤ i by omega) (by omega), Option.bind_some]
    dsimp only
    rw [if_pos rfl, if_pos rfl, if_pos (by omega), if_pos (by omega), if_pos (by rw [e1]), if_pos (by rw [e1, e3]), if_pos (by omega), if_pos (by rw [e1, e2]), wr_next i (by omega)]
    exact last_l2 h1 hn D D2 L L2 d (i + 1) k (by omega)
theorem last_l1 {n : Nat} (h1 : 1 ≤ n) (hn : n ≤ 6) {ms : List S24} (hml : ms.length ≤ 30) (hmg : ∀ m ∈ ms, Pr.Good n m) : ∀ (d i k : Nat) (la su : List ByteArray) (so : List S24), i + d = ms.length → 100 < k → Dsk n su so → so.length ≤ i → Lasts n su so la →
    columbariumlaw14_DiskLast.l1 (k + 2 * d) true n 0 ms la i su so = some true
  | 0, i, k, la, su, so, h, hk, D, hs, L => by
    obtain ⟨k, rfl⟩ : ∃ m, k = m + n + 1 + 1 + 1 := ⟨k - n - 3, by omega⟩
    obtain ⟨d2, D2, _⟩ := do_ok D h1 (by omega) (l := [⟨true, 0, ⟨#[]⟩⟩]) (fun m hm => by (obtain rfl : m = ⟨true, 0, ⟨#[]⟩⟩ := by simpa using hm); exact sync_good n) (by simp; omega)
    have d2' : disk_Do.f su so [⟨true, 0, ⟨#[]⟩⟩] = some (fall su so (fun _ => 64) 0, [], 0) := d2
    have D2' : Dsk n (fall su so (fun _ => 64) 0) [] := D2
    have hl2 := D2'.len
    have hlen := D.len
    rw [Nat.mul_zero, Nat.add_zero]
    simp only [columbariumlaw14_DiskLast.l1]
    rw [if_neg (by omega), d2', Option.bind_some, if_pos trivial]
    dsimp only
    rw [if_pos rfl]
    simp only [columbariumlaw14_DiskLast.j3]
    rw [show (((fall su so (fun _ => 64) 0).length : Int) != (n : Int)) = false by simp; omega]
    simp only [Bool.false_eq_true, if_false]
    exact last_l2 h1 hn D D2' L (fun b hb => fall_last so su 0 b D.fits (by omega)) n 0 k (by omega)
  | d + 1, i, k, la, su, so, h, hk, D, hs, L => by
    have hi : i < ms.length := by omega
    have hmm : ms[i] ∈ ms := List.getElem_mem hi
    have hg := hmg _ hmm
    have hlen := D.len
    have hll := L.len
    obtain ⟨d2, D2, z2⟩ := do_ok D h1 (by omega) (l := [ms[i]]) (fun m hm => by (obtain rfl : m = ms[i] := by simpa using hm); exact hg) (by simp; omega)
    rw [show k + 2 * (d + 1) = (k + 2 * d) + 1 + 1 by omega]
    simp only [columbariumlaw14_DiskLast.l1]
    rw [if_pos (by omega), if_pos (by omega), show (⟨(rd_T24 ms i).f0, (rd_T24 ms i).f1, (rd_T24 ms i).f2⟩ : S24) = ms[i] from rd24_get hi, d2, Option.bind_some]
    dsimp only
    rw [if_pos rfl, right_ok D2 h1 (by omega), Option.bind_some]
    simp only [columbariumlaw14_DiskLast.j2, Bool.not_true, Bool.false_eq_true, if_false]
    rw [if_pos (by omega), if_pos (by omega), rd24_get hi, wr_next i (by omega)]
    have hz : (runL su so [ms[i]]).2.length ≤ i + 1 := by simp at z2; omega
    cases hsy : ms[i].f0
    · have hp := hg.put hsy
      have e : runL su so [ms[i]] = (su, so ++ [ms[i]]) := by simp [runL, hsy]
      rw [e] at D2 hz ⊢
      simp only [Bool.false_eq_true, if_false]
      rw [if_pos (by omega), if_pos (by omega)]
      refine last_l1 h1 hn hml hmg d (i + 1) k _ su _ (by omega) hk D2 hz ⟨by simp [hll], fun b hb => ?_⟩
      rw [rd_set (by omega), last_app, L.eq b hb]
      by_cases hb2 : ms[i].f1 = b
      · rw [if_pos (by omega), if_pos hb2]
      · rw [if_neg (by omega), if_neg hb2]
    · have e : runL su so [ms[i]] = (fall su so (fun _ => 64) 0, []) := by simp [runL, hsy]
      rw [e] at D2 hz ⊢
      simp only [if_true]
      refine last_l1 h1 hn hml hmg d (i + 1) k la _ _ (by omega) hk D2 hz ⟨hll, fun b hb => ?_⟩
      rw [L.eq b hb]
      exact (fall_last so su 0 b D.fits (by omega)).symm
theorem last_true (a0 : Int) (l1 : List S67) (h0 : I64 a0) (h1 : wfR l1) : ∃ k, columbariumlaw14_DiskLast.f k a0 l1 = some true := by
  obtain ⟨p, hp, p0, p1⟩ := pick_eq h0 (show (0 : Int) < 6 by omega) (by omega)
  obtain ⟨n, hn⟩ : ∃ n : Nat, 1 + p = n := ⟨(1 + p).toNat, by omega⟩
  have hn1 : 1 ≤ n := by omega
  have hn2 : n ≤ 6 := by omega
  have hw : wrap64 (1 + p) = (n : Int) := by unfold wrap64; omega
  obtain ⟨k, hk⟩ : ∃ k : Nat, 5000 < k := ⟨5001, by omega⟩
  obtain ⟨ms, hms, hml, hmg⟩ := moves_eq h1 (n := n) (by omega) hn2 (k := k) (by omega)
  obtain ⟨q, hq⟩ : ∃ q, k = q + 2 * ms.length + n + 1 := ⟨k - 2 * ms.length - n - 1, by omega⟩
  refine ⟨k, ?_⟩
  unfold columbariumlaw14_DiskLast.f
  rw [awake_ok (by omega), Option.bind_some, hp, Option.bind_some, hw, new_ok hn1 (by omega), Option.bind_some, hms, Option.bind_some, if_pos (by omega), if_pos (by omega), Int.toNat_natCast, hq]
  have := last_l0 hn2 true 0 ms (List.replicate n Pr.blank) [] n 0 (q + 2 * ms.length) (by omega)
  rw [List.replicate_zero, List.nil_append] at this
  refine this.trans ?_
  exact last_l1 hn1 hn2 hml hmg ms.length 0 q _ _ _ (by omega) (by omega) (dsk_new n) (by simp) ⟨by simp, fun b hb => rfl⟩
theorem DiskLast (a0 : Int) (l1 : List S67) (h0 : (Lit.int .i64 a0).wf = true) (h1 : l1.length ≤ maxLen) (h2 : wf67 l1) : ∃ k, columbariumlaw14_DiskLast.f k a0 l1 = some true :=
  last_true a0 l1 (i64_of h0) (fun x hx => ⟨i64_of (h2 x hx).1, i64_of (h2 x hx).2.1, i64_of (h2 x hx).2.2⟩)
end Go.Proofs.Ytcfinlmocgbnbaa.Pure
