/-
  Plain facts about disks: what is drawn for them, what moves and crashes leave. No condition but the ones that each lemma names.
-/
import Derived.Test.YtcfinlmocgbnbaaXDo
import Derived.Test.YtcfinlmocgbnbaaXNew
import Derived.Test.YtcfinlmocgbnbaaXRead
import Derived.Test.YtcfinlmocgbnbaaMlaw
import Derived.Test.YtcfinlmocgbnbaaPrFcolumbariumlaw14awake
import Derived.Test.YtcfinlmocgbnbaaPrFcolumbariumref14Same
set_option linter.unusedVariables false
set_option linter.unusedSimpArgs false
namespace Go.Proofs.Ytcfinlmocgbnbaa.Pr
open Go.RowKit Go.Proofs.YtcfinlmocgbnbaaW.PrintWords Go.Proofs.YtcfinlmocgbnbaaW.PrintLast Go.Proofs.YtcfinlmocgbnbaaW.PrintMore
def I64 (a : Int) : Prop := -9223372036854775808 ≤ a ∧ a ≤ 9223372036854775807
theorem i64_of {a : Int} (h : (Lit.int .i64 a).wf = true) : I64 a := by
  have e0 : IntKind.i64.min = -9223372036854775808 := rfl
  have e1 : IntKind.i64.max = 9223372036854775807 := rfl
  simp only [Lit.wf, Bool.and_eq_true, decide_eq_true_eq] at h
  unfold I64
  omega
theorem pick_eq {a n : Int} (ha : I64 a) (hn : 0 < n) (hn2 : n ≤ 1000000) : ∃ p, columbariumlaw14_pick.f a n = some p ∧ 0 ≤ p ∧ p < n := by
  unfold I64 at ha
  unfold columbariumlaw14_pick.f
  by_cases h : a < 0
  · have e1 : wrap64 (a + 1) = a + 1 := by unfold wrap64; omega
    have e2 : wrap64 (-(a + 1)) = -(a + 1) := by unfold wrap64; omega
    rw [if_pos h, if_neg (by omega), e1, e2]
    refine ⟨_, rfl, ?_, ?_⟩
    · exact Int.tmod_nonneg _ (by omega)
    · exact Int.tmod_lt_of_pos _ hn
  · rw [if_neg h, if_neg (by omega)]
    refine ⟨_, rfl, ?_, ?_⟩
    · exact Int.tmod_nonneg _ (by omega)
    · exact Int.tmod_lt_of_pos _ hn
theorem strOf_size (xs : List Int) : (strOfNums xs).size = xs.length := by
  simp [strOfNums, ByteArray.size]
theorem bytes_l0 {a : Int} (ha : I64 a) : ∀ (d : Nat) (xs : List Int) (i : Nat) (k : Nat), i + d = 64 → xs.length = i → d < k → ∃ b : ByteArray, columbariumlaw14_Bytes.l0 k a xs i = some b ∧ b.size = 64
  | 0, xs, i, k, h, hx, hk => by
    obtain ⟨k, rfl⟩ : ∃ m, k = m + 1 := ⟨k - 1, by omega⟩
    simp only [columbariumlaw14_Bytes.l0]
    rw [if_neg (by omega)]
    exact ⟨_, rfl, by rw [strOf_size]; omega⟩
  | d + 1, xs, i, k, h, hx, hk => by
    obtain ⟨k, rfl⟩ : ∃ m, k = m + 1 := ⟨k - 1, by omega⟩
    obtain ⟨p, hp, h0, h1⟩ := pick_eq ha (show (0 : Int) < 250 by omega) (by omega)
    simp only [columbariumlaw14_Bytes.l0]
    rw [if_pos (by omega), hp, Option.bind_some, if_pos (by omega), show wrap64 ((i : Int) + 1) = ((i + 1 : Nat) : Int) from by unfold wrap64; omega]
    exact bytes_l0 ha d _ (i + 1) k (by omega) (by simp [hx]) (by omega)
theorem bytes_eq {a : Int} (ha : I64 a) {k : Nat} (hk : 64 < k) : ∃ b : ByteArray, columbariumlaw14_Bytes.f k a = some b ∧ b.size = 64 := bytes_l0 ha 64 [] 0 k (by omega) rfl hk
/-- A move that may be. -/
structure Good (n : Nat) (m : S24) : Prop where
  syn : m.f0 = true → m.f1 = 0 ∧ m.f2 = ⟨#[]⟩
  put : m.f0 = false → 0 ≤ m.f1 ∧ m.f1 < n ∧ m.f2.size = 64
theorem good_odd {n : Nat} {m : S24} (h : Good n m) : oddB n m = false := by
  obtain ⟨f0, f1, f2⟩ := m
  unfold oddB
  cases f0
  · have := h.put rfl
    simp only [Bool.false_eq_true, if_false, Bool.or_eq_false_iff, decide_eq_false_iff_not]
    dsimp only at this
    omega
  · obtain ⟨rfl, rfl⟩ := h.syn rfl
    rfl
def wfR (l : List S67) : Prop := ∀ x ∈ l, I64 x.f0 ∧ I64 x.f1 ∧ I64 x.f2
theorem rd67_wf {l : List S67} (h : wfR l) {i : Nat} (hi : i < l.length) : I64 (rd_T67 l i).f0 ∧ I64 (rd_T67 l i).f1 ∧ I64 (rd_T67 l i).f2 := by
  have : rd_T67 l i = l[i] := by unfold rd_T67; simp [hi]
  rw [this]
  exact h _ (List.getElem_mem hi)
theorem moves_l0 {l : List S67} (hl : wfR l) {n : Nat} (hn : 0 < n) (hn2 : n ≤ 6) : ∀ (d : Nat) (xs : List S24) (i k : Nat), i + d = 30 → xs.length = i → i ≤ l.length → (∀ m ∈ xs, Good n m) → 2 * d + 70 < k →
    ∃ ms : List S24, columbariumlaw14_Moves.l0 k l n xs i = some ms ∧ ms.length ≤ 30 ∧ ∀ m ∈ ms, Good n m
  | 0, xs, i, k, h, hx, hil, hg, hk => by
    obtain ⟨k, rfl⟩ : ∃ m, k = m + 1 + 1 := ⟨k - 2, by omega⟩
    have hlen : xs.length ≤ 30 := by omega
    simp only [columbariumlaw14_Moves.l0, columbariumlaw14_Moves.j1]
    by_cases hlt : (i : Int) < l.length
    · rw [if_pos hlt, show decide ((i : Int) < 30) = false by simp; omega]
      simp only [Bool.false_eq_true, if_false]
      exact ⟨_, rfl, hlen, hg⟩
    · rw [if_neg hlt]
      simp only [Bool.false_eq_true, if_false]
      exact ⟨_, rfl, hlen, hg⟩
  | d + 1, xs, i, k, h, hx, hil, hg, hk => by
    obtain ⟨k, rfl⟩ : ∃ m, k = m + 1 + 1 := ⟨k - 2, by omega⟩
    have hlen : xs.length ≤ 30 := by omega
    simp only [columbariumlaw14_Moves.l0, columbariumlaw14_Moves.j1]
    by_cases hlt : i < l.length
    · obtain ⟨w0, w1, w2⟩ := rd67_wf hl hlt
      obtain ⟨p, hp, p0, p1⟩ := pick_eq w0 (show (0 : Int) < 5 by omega) (by omega)
      obtain ⟨q, hq, q0, q1⟩ := pick_eq w1 (show (0 : Int) < n by omega) (by omega)
      obtain ⟨b, hb, bs⟩ := bytes_eq w2 (k := k) (by omega)
      rw [if_pos (by omega), show decide ((i : Int) < 30) = true by simp; omega, if_pos rfl, if_pos (by omega), if_pos (by omega), hp, Option.bind_some, show wrap64 ((i : Int) + 1) = ((i + 1 : Nat) : Int) from by unfold wrap64; omega]
      by_cases hz : p = 0
      · rw [if_pos hz, if_pos (by omega)]
        refine moves_l0 hl hn hn2 d _ (i + 1) k (by omega) (by simp [hx]) (by omega) (fun m hm => ?_) (by omega)
        rcases List.mem_append.1 hm with hm | hm
        · exact hg m hm
        · obtain rfl : m = ⟨true, 0, ⟨#[]⟩⟩ := by simpa using hm
          exact ⟨fun _ => ⟨rfl, rfl⟩, fun h => by cases h⟩
      · rw [if_neg hz, hq, Option.bind_some, hb, Option.bind_some, if_pos (by omega)]
        refine moves_l0 hl hn hn2 d _ (i + 1) k (by omega) (by simp [hx]) (by omega) (fun m hm => ?_) (by omega)
        rcases List.mem_append.1 hm with hm | hm
        · exact hg m hm
        · obtain rfl : m = ⟨false, q, b⟩ := by simpa using hm
          exact ⟨(fun h => by cases h), fun _ => ⟨q0, q1, bs⟩⟩
    · rw [if_neg (by omega)]
      simp only [Bool.false_eq_true, if_false]
      exact ⟨_, rfl, hlen, hg⟩
theorem moves_eq {l : List S67} (hl : wfR l) {n : Nat} (hn : 0 < n) (hn2 : n ≤ 6) {k : Nat} (hk : 200 < k) : ∃ ms : List S24, columbariumlaw14_Moves.f k l n = some ms ∧ ms.length ≤ 30 ∧ ∀ m ∈ ms, Good n m :=
  moves_l0 hl hn hn2 30 [] 0 k (by omega) rfl (by omega) (fun m hm => by cases hm) (by omega)
/-- A disk that may be, of so many blocks. -/
structure Dsk (n : Nat) (su : List ByteArray) (so : List S24) : Prop extends DoInv n su so where
  nos : ∀ m ∈ so, m.f0 = false
theorem Dsk.right {n : Nat} {su : List ByteArray} {so : List S24} (h : Dsk n su so) (h1 : 1 ≤ n) (h2 : n ≤ 400) : rightB su so = true := right_iff.2 ⟨by rw [h.len]; exact h1, by rw [h.len]; exact h2, h.few, h.fits, h.nos⟩
theorem dsk_new (n : Nat) : Dsk n (List.replicate n blank) [] := ⟨⟨by simp, by simp, ⟨(fun m hm => by cases hm), (fun m hm => by cases hm), (fun s hs => by rw [(List.mem_replicate.1 hs).2]; rfl)⟩⟩, fun m hm => by cases hm⟩
theorem dsk_fall {n : Nat} {su : List ByteArray} {so : List S24} (h : Dsk n su so) {cut : Nat → Int} (hc : ∀ j, 0 ≤ cut j ∧ cut j ≤ 64) : Dsk n (fall su so cut 0) [] :=
  ⟨⟨by rw [fall_len]; exact h.len, by simp, ⟨(fun m hm => by cases hm), (fun m hm => by cases hm), fall_sur so su cut 0 h.fits hc⟩⟩, fun m hm => by cases hm⟩
theorem dsk_app {n : Nat} {su : List ByteArray} {so : List S24} {m : S24} (h : Dsk n su so) (hm : Good n m) (h0 : m.f0 = false) (h1 : so.length < 3000) : Dsk n su (so ++ [m]) :=
  ⟨inv_app h.toDoInv (good_odd hm) h0 (by omega), fun x hx => by
    rcases List.mem_append.1 hx with hx | hx
    · exact h.nos x hx
    · obtain rfl : x = m := by simpa using hx
      exact h0⟩
/-- What moves leave, where there is room. -/
def runL : List ByteArray → List S24 → List S24 → List ByteArray × List S24
  | su, so, [] => (su, so)
  | su, so, m :: l => if m.f0 = true then runL (fall su so (fun _ => 64) 0) [] l else runL su (so ++ [m]) l
theorem doL_run {n : Nat} {su0 : List ByteArray} {so0 : List S24} : ∀ (l : List S24) (su : List ByteArray) (so : List S24), Dsk n su so → (∀ m ∈ l, Good n m) → so.length + l.length ≤ 3000 →
    doL su0 so0 su so l = ((runL su so l).1, (runL su so l).2, 0) ∧ Dsk n (runL su so l).1 (runL su so l).2 ∧ (runL su so l).2.length ≤ so.length + l.length
  | [], su, so, h, hg, hr => ⟨rfl, h, by simp [runL]⟩
  | m :: l, su, so, h, hg, hr => by
    simp only [List.length_cons] at hr
    have hm := hg m (by simp)
    have hl := fun x hx => hg x (List.mem_cons_of_mem m hx)
    cases hs : m.f0
    · have hd := dsk_app h hm hs (by omega)
      obtain ⟨e, d, z⟩ := doL_run l su (so ++ [m]) hd hl (by simp; omega)
      simp only [doL, runL, hs, Bool.false_eq_true, if_false]
      rw [if_neg (by omega)]
      exact ⟨e, d, by simp at z ⊢; omega⟩
    · have hd := dsk_fall h (cut := fun _ => 64) (fun _ => by omega)
      obtain ⟨e, d, z⟩ := doL_run l _ [] hd hl (by simp; omega)
      simp only [doL, runL, hs, if_true]
      exact ⟨e, d, by simp at z ⊢; omega⟩
theorem do_ok {n : Nat} {su : List ByteArray} {so : List S24} {l : List S24} (h : Dsk n su so) (h1 : 1 ≤ n) (h2 : n ≤ 400) (hg : ∀ m ∈ l, Good n m) (hr : so.length + l.length ≤ 3000) :
    disk_Do.f su so l = some ((runL su so l).1, (runL su so l).2, 0) ∧ Dsk n (runL su so l).1 (runL su so l).2 ∧ (runL su so l).2.length ≤ so.length + l.length := by
  obtain ⟨e, d, z⟩ := doL_run (su0 := su) (so0 := so) l su so h hg hr
  have hany : l.any (oddB su.length) = false := by
    rw [List.any_eq_false]
    intro m hm
    rw [h.len]
    simpa using good_odd (hg m hm)
  have hlen := h.len
  have hfew := h.few
  refine ⟨?_, d, z⟩
  unfold disk_Do.f doB
  rw [if_pos (by omega), if_pos ⟨h.right h1 h2, hany⟩, e]
theorem crash_ok {n : Nat} {su : List ByteArray} {so : List S24} (h : Dsk n su so) (h1 : 1 ≤ n) (h2 : n ≤ 400) (cuts : List Int) :
    disk_Crash.f su so cuts = some (fall su so (cutOf cuts) 0, [], 0) ∧ Dsk n (fall su so (cutOf cuts) 0) [] := by
  have hlen := h.len
  have hfew := h.few
  refine ⟨?_, dsk_fall h (cutOf_range cuts)⟩
  unfold disk_Crash.f crashB
  rw [if_pos (by omega), if_pos (h.right h1 h2)]
theorem right_ok {n : Nat} {su : List ByteArray} {so : List S24} (h : Dsk n su so) (h1 : 1 ≤ n) (h2 : n ≤ 400) : disk_Right.f su so = some true := by
  unfold disk_Right.f
  rw [h.right h1 h2]
theorem read_ok {n : Nat} {su : List ByteArray} {so : List S24} (h : Dsk n su so) (h1 : 1 ≤ n) (h2 : n ≤ 400) {b : Int} (b0 : 0 ≤ b) (b1 : b < n) : disk_Read.f su so b = some (lastB su so b, 0) := by
  unfold disk_Read.f readB
  rw [if_pos ⟨h.right h1 h2, b0, by rw [h.len]; exact b1⟩]
theorem new_ok {n : Nat} (h1 : 1 ≤ n) (h2 : n ≤ 400) : disk_New.f n = some (List.replicate n blank, [], 0) := by
  unfold disk_New.f newB
  rw [if_pos (by omega), Int.toNat_natCast]
theorem same_l1 (su : List ByteArray) (so : List S24) : ∀ (d i k : Nat), i + d = so.length → d < k → so.length ≤ 100000 → columbariumref14_Same.l1 k i su so su so = some true
  | 0, i, k, h, hk, hz => by
    obtain ⟨k, rfl⟩ : ∃ m, k = m + 1 := ⟨k - 1, by omega⟩
    simp only [columbariumref14_Same.l1]
    rw [if_neg (by omega)]
  | d + 1, i, k, h, hk, hz => by
    obtain ⟨k, rfl⟩ : ∃ m, k = m + 1 := ⟨k - 1, by omega⟩
    simp only [columbariumref14_Same.l1]
    rw [if_pos (by omega), if_pos (by omega), if_pos (by omega), if_neg (by simp), show wrap64 ((i : Int) + 1) = ((i + 1 : Nat) : Int) from by unfold wrap64; omega]
    exact same_l1 su so d (i + 1) k (by omega) (by omega) hz
theorem same_l0 (su : List ByteArray) (so : List S24) : ∀ (d i k : Nat), i + d = su.length → d + so.length + 1 < k → su.length ≤ 100000 → so.length ≤ 100000 → columbariumref14_Same.l0 k i su so su so = some true
  | 0, i, k, h, hk, hz, hz2 => by
    obtain ⟨k, rfl⟩ : ∃ m, k = m + 1 := ⟨k - 1, by omega⟩
    simp only [columbariumref14_Same.l0]
    rw [if_neg (by omega)]
    exact same_l1 su so so.length 0 k (by omega) (by omega) hz2
  | d + 1, i, k, h, hk, hz, hz2 => by
    obtain ⟨k, rfl⟩ : ∃ m, k = m + 1 := ⟨k - 1, by omega⟩
    simp only [columbariumref14_Same.l0]
    rw [if_pos (by omega), if_pos (by omega), if_pos (by omega), if_pos trivial, show wrap64 ((i : Int) + 1) = ((i + 1 : Nat) : Int) from by unfold wrap64; omega]
    exact same_l0 su so d (i + 1) k (by omega) (by omega) hz hz2
theorem same_ok {n : Nat} {su : List ByteArray} {so : List S24} (h : Dsk n su so) (h2 : n ≤ 400) {k : Nat} (hk : 4000 < k) : columbariumref14_Same.f k su so su so = some true := by
  have hlen := h.len
  have hfew := h.few
  obtain ⟨k, rfl⟩ : ∃ m, k = m + 1 := ⟨k - 1, by omega⟩
  unfold columbariumref14_Same.f
  rw [if_pos rfl]
  simp only [columbariumref14_Same.j0]
  rw [if_neg (by simp)]
  exact same_l0 su so su.length 0 k (by omega) (by omega) (by omega) (by omega)
set_option maxRecDepth 100000 in
theorem awake_100 : columbariumlaw14_awake.f 100 = some true := by kernel_rfl
theorem awake_ok {k : Nat} (hk : 100 ≤ k) : columbariumlaw14_awake.f k = some true := at_rounds (g := fun k => columbariumlaw14_awake.f k) (fun k => columbariumlaw14_awake.mono k) hk awake_100
theorem sync_good (n : Nat) : Good n ⟨true, 0, ⟨#[]⟩⟩ := ⟨fun _ => ⟨rfl, rfl⟩, fun h => by cases h⟩
end Go.Proofs.Ytcfinlmocgbnbaa.Pr
