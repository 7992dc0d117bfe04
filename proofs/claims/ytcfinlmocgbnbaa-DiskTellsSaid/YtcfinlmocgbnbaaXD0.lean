/-
  Disks: what a move, a disk, a sync and a crash are, in plain words; the small functions that Right and Do hand to others; what slices.IndexFunc and slices.ContainsFunc answer. No condition but the ones that each lemma names.
-/
import Derived.Test.YtcfinlmocgbnbaaPr0
import Derived.Test.YtcfinlmocgbnbaaXBase
namespace Go.Proofs.Ytcfinlmocgbnbaa.Pr
open Go.RowKit Go.Shelf Go.Proofs.Ytcfinlmocgbnbaa.XB Go.Proofs.YtcfinlmocgbnbaaW.PrintWords
attribute [local go_sem] Oper.semAt_some
set_option linter.unusedVariables false
set_option linter.unusedSimpArgs false

/-- May a move not be, of so many blocks? -/
def oddB (n : Int) (m : S24) : Bool := if m.f0 then (decide (m.f1 ≠ 0) || decide (m.f2 ≠ ⟨#[]⟩)) else (decide (m.f1 < 0) || decide (m.f1 ≥ n) || decide ((m.f2.size : Int) ≠ 64))
def shortB (s : ByteArray) : Bool := decide ((s.size : Int) ≠ 64)
def syncB (m : S24) : Bool := m.f0
/-- May a disk be? -/
def rightB (su : List ByteArray) (so : List S24) : Bool := decide ((su.length : Int) ≥ 1) && (decide ((su.length : Int) ≤ 400) && (decide ((so.length : Int) ≤ 3000) && (!(su.any shortB) && (!(so.any syncB) && !(so.any (oddB su.length))))))
/-- What is on a block. -/
def lastB (su : List ByteArray) (so : List S24) (b : Int) : ByteArray := match so.reverse.find? (fun m => decide (m.f1 = b)) with
  | some m => m.f2
  | none => rdOf ByteArray.empty su b
def readB (su : List ByteArray) (so : List S24) (b : Int) : ByteArray × Int := if rightB su so = true ∧ 0 ≤ b ∧ b < su.length then (lastB su so b, 0) else (⟨#[]⟩, 1)
/-- One thing written to its block, so many bytes of it. -/
def put1 (su : List ByteArray) (m : S24) (n : Int) : List ByteArray := su.set m.f1.toNat (m.f2.extract 0 n.toNat ++ (rdOf ByteArray.empty su m.f1).extract n.toNat (rdOf ByteArray.empty su m.f1).size)
/-- .. all of it, one behind the other. -/
def fall : List ByteArray → List S24 → (Nat → Int) → Nat → List ByteArray
  | su, [], _, _ => su
  | su, m :: so, cut, i => fall (put1 su m (cut i)) so cut (i + 1)
def cutOf (cuts : List Int) (i : Nat) : Int := if (i : Int) ≥ cuts.length then 0 else min (max (rd cuts i) 0) 64
def doL (su0 : List ByteArray) (so0 : List S24) : List ByteArray → List S24 → List S24 → List ByteArray × List S24 × Int
  | su, so, [] => (su, so, 0)
  | su, so, m :: l => if m.f0 = true then doL su0 so0 (fall su so (fun _ => 64) 0) [] l else if (so.length : Int) = 3000 then (su0, so0, 2) else doL su0 so0 su (so ++ [m]) l
def doB (su : List ByteArray) (so : List S24) (l : List S24) : List ByteArray × List S24 × Int := if rightB su so = true ∧ l.any (oddB su.length) = false then doL su so su so l else (su, so, 1)
def crashB (su : List ByteArray) (so : List S24) (cuts : List Int) : List ByteArray × List S24 × Int := if rightB su so = true then (fall su so (cutOf cuts) 0, [], 0) else (su, so, 1)

theorem str_eq (a b : ByteArray) : (a.toList == b.toList) = decide (a = b) := by
  have h : a.toList = b.toList ↔ a = b := by
    rw [ByteArray.toList_eq, ByteArray.toList_eq]
    constructor
    · intro h
      obtain ⟨⟨x⟩⟩ := a
      obtain ⟨⟨y⟩⟩ := b
      simp at h
      rw [h]
    · rintro rfl; rfl
  by_cases h1 : a = b <;> simp [h, h1]
set_option maxRecDepth 100000 in
theorem short_calls (x : ByteArray) (w : World) : Calls Try.prog 45 #[.string x] w fun e w' => e = .returned (.bool (shortB x)) ∧ Below w.heap.size w w' := by
  go_enter Try.func45, Try.ntmps45
  go_wp2
  go_ret
  refine ⟨?_, Below.refl _ _⟩
  by_cases h2 : (x.size : Int) = 64 <;> simp [shortB, h2] <;> omega
set_option maxRecDepth 100000 in
theorem sync_calls (x : S24) (w : World) : Calls Try.prog 44 #[.agg #[.bool x.f0, .int .i64 x.f1, .string x.f2]] w fun e w' => e = .returned (.bool (syncB x)) ∧ Below w.heap.size w w' := by
  go_enter Try.func44, Try.ntmps44
  go_wp2
  go_ret
  exact ⟨rfl, below_alloc (Below.refl _ _) _⟩
set_option maxRecDepth 100000 in
theorem odd_calls (x : S24) (n : Int) (b : Nat) (w0 w : World) (hb : w0.heap[b]? = some (.cells #[.int .i64 n] 3 (0, 0))) (hw : Below w0.heap.size w0 w) :
    Calls Try.prog 73 (#[.agg #[.bool x.f0, .int .i64 x.f1, .string x.f2]] ++ #[.pointer (some ⟨b, 0, none⟩)]) w fun e w' => e = .returned (.bool (oddB n x)) ∧ Below w.heap.size w w' := by
  have hb' := blk_same hb hw
  have c2 := fun (o : Obj) => (blk_cell (blk_alloc hb' o) 0).trans rfl
  obtain ⟨sy, bl, by_⟩ := x
  have hs := str_eq by_ ⟨#[]⟩
  go_enter Try.func73, Try.ntmps73
  cases sy
  · by_cases h0 : bl < 0
    · go_wp2
      go_ret
      exact ⟨by simp [oddB, h0], below_alloc (Below.refl _ _) _⟩
    · by_cases h1 : n ≤ bl
      · go_wp2
        go_ret
        exact ⟨by simp [oddB, h0, h1], below_alloc (Below.refl _ _) _⟩
      · go_wp2
        go_ret
        refine ⟨?_, below_alloc (Below.refl _ _) _⟩
        by_cases h2 : (by_.size : Int) = 64 <;> simp [oddB, h0, h1, h2]
  · by_cases h0 : bl = 0
    · by_cases h1 : by_ = ⟨#[]⟩
      · subst h0 h1
        clear hs
        go_wp2
        go_ret
        exact ⟨by simp [oddB], below_alloc (Below.refl _ _) _⟩
      · have e0 : (bl == 0) = true := by simpa using h0
        have e1 : (bl != 0) = false := by simpa using h0
        have hne : by_.toList ≠ [] := fun e => h1 (by have := hs; simp [e] at this; simpa using this)
        have e2 : by_.toList.isEmpty = false := by simpa using hne
        clear h0 hs
        go_wp2
        go_ret
        exact ⟨by simp [oddB, h1], below_alloc (Below.refl _ _) _⟩
    · have e0 : (bl == 0) = false := by simpa using h0
      have e1 : (bl != 0) = true := by simpa using h0
      go_wp2
      go_ret
      exact ⟨by simp [oddB, h0], below_alloc (Below.refl _ _) _⟩
theorem oddF_calls (n : Int) (w : World) : Calls Try.prog 48 #[.int .i64 n] w fun e w' => e = .returned (.func (.func 73) #[] #[.pointer (some ⟨w.heap.size, 0, none⟩)]) ∧ w' = w.alloc (.cells #[.int .i64 n] 3) := by
  go_enter Try.func48, Try.ntmps48
  go_wp2
  go_ret
  exact ⟨rfl, rfl⟩
/-- The place of the first thing that is so; -1: there is none. -/
def idx {α : Type} (p : α → Bool) (xs : List α) : Int := match xs.findIdx? p with | some i => i | none => -1
theorem idx_none {α : Type} {p : α → Bool} {xs : List α} (h : ∀ j, (hj : j < xs.length) → p xs[j] = false) : idx p xs = -1 := by
  unfold idx
  rw [List.findIdx?_eq_none_iff.2]
  intro x hx
  obtain ⟨j, hj, rfl⟩ := List.getElem_of_mem hx
  exact h j hj
theorem idx_some {α : Type} {p : α → Bool} {xs : List α} {k : Nat} (hk : k < xs.length) (hp : p xs[k] = true) (h : ∀ j, (hj : j < k) → p (xs[j]'(by omega)) = false) : idx p xs = k := by
  unfold idx
  rw [List.findIdx?_eq_some_iff_getElem.2 ⟨hk, hp, fun j hj => by simp [h j hj]⟩]
theorem idx_cases {α : Type} (p : α → Bool) (xs : List α) : (idx p xs = -1 ∧ xs.find? p = none) ∨ ∃ k, ∃ hk : k < xs.length, idx p xs = k ∧ xs.find? p = some xs[k] := by
  unfold idx
  cases h : xs.findIdx? p with
  | none => exact .inl ⟨rfl, by rw [List.find?_eq_none]; rw [List.findIdx?_eq_none_iff] at h; intro x hx; simp [h x hx]⟩
  | some i =>
    obtain ⟨hi, hp, hj⟩ := List.findIdx?_eq_some_iff_getElem.1 h
    exact .inr ⟨i, hi, rfl, by rw [List.find?_eq_some_iff_getElem]; exact ⟨hp, i, hi, rfl, fun j hj' => by simpa using hj j hj'⟩⟩
theorem idx_any {α : Type} (p : α → Bool) (xs : List α) : decide (idx p xs ≥ 0) = xs.any p := by
  rcases idx_cases p xs with ⟨h1, h2⟩ | ⟨k, hk, h1, h2⟩
  · rw [h1]
    rw [List.find?_eq_none] at h2
    have : xs.any p = false := by rw [List.any_eq_false]; exact h2
    rw [this]
    rfl
  · rw [h1]
    have h3 := List.find?_some h2
    have : xs.any p = true := List.any_eq_true.2 ⟨_, List.getElem_mem hk, h3⟩
    rw [this]
    simp
theorem rd24_get {xs : List S24} {k : Nat} (h : k < xs.length) : rd_T24 xs k = xs[k] := by
  unfold rd_T24
  simp [h]
theorem rdS_get {xs : List ByteArray} {k : Nat} (h : k < xs.length) : rdOf ByteArray.empty xs k = xs[k] := by
  unfold rdOf
  simp [h]
set_option maxRecDepth 100000 in
set_option maxHeartbeats 4000000 in
theorem index72_calls (pf : Nat) (lb : Array Value) (p : S24 → Bool) (A : Option Addr) (c : Nat) (xs : List S24) (w : World) (hr : Kd.C k24 w A xs.length xs) (hc : xs.length ≤ c) (hxs : xs.length ≤ 9223372036854775807)
    (epf : ∀ args w, (callFunc pf args).run Try.prog w = .ok (.enter pf args) w)
    (hp : ∀ (x : S24) (W : World), Below w.heap.size w W → Calls Try.prog pf (#[.agg #[.bool x.f0, .int .i64 x.f1, .string x.f2]] ++ lb) W fun e W' => e = .returned (.bool (p x)) ∧ Below W.heap.size W W') :
    Calls Try.prog 72 #[.slice A xs.length c, .func (.func pf) #[] lb] w fun e w' => e = .returned (.int .i64 (idx p xs)) ∧ Below w.heap.size w w' := by
  refine (callsIn_wide (n := 9)).1 (callsIn_of_wp Try.func72 rfl trivial ?_ rfl)
  simp only [Try.ntmps72, List.size_toArray, List.length_cons, List.length_nil, Nat.reduceAdd, Nat.reduceSub, Array.replicate_succ, Array.replicate_zero, List.push_toArray, List.append_toArray, List.nil_append, List.cons_append]
  gi_wp2
  gi_loopw [8] (fun v wr => ∃ k : Nat, k ≤ xs.length ∧ v = .int .i64 k ∧ (∀ j, (hj : j < xs.length) → j < k → p xs[j] = false) ∧ Below w.heap.size w wr)
    (fun v _ => xs.length - (intOf v).toNat)
  case atStart => exact ⟨0, by omega, rfl, fun j _ h => absurd h (by omega), Below.refl _ _⟩
  case round =>
    obtain ⟨k, hk, rfl, hJs, hB⟩ := hrel
    by_cases hlt : k < xs.length
    · obtain ⟨ad, rfl, r0, r1, r2⟩ := at_T24 hr (k : Int) (by omega) (by omega)
      have q0 := (hB.cell (World.block_lt_of_cell? w _ r0)).trans r0
      have q1 := (hB.cell (World.block_lt_of_cell? w _ r1)).trans r1
      have q2 := (hB.cell (World.block_lt_of_cell? w _ r2)).trans r2
      simp only [Int.toNat_natCast] at q0 q1 q2
      clear r0 r1 r2
      gi_wp2_with fail
      refine ⟨trivial, (callsIn_wide.2 (hp (rd_T24 xs (k : Int)) _ hB)).mono ?_⟩
      rintro e W1 ⟨rfl, hb⟩
      have hw : wrap64 ((k : Int) + 1) = (k : Int) + 1 := by unfold wrap64; omega
      have hB1 : Below w.heap.size w W1 := below_step hB hb
      clear hb q0 q1 q2
      cases hpk : p (rd_T24 xs (k : Int))
      · gi_wp2
        go_roundw
        case rel =>
          refine ⟨k + 1, by omega, by simp, fun j hj h => ?_, hB1⟩
          by_cases hjk : j < k
          · exact hJs j hj hjk
          · obtain rfl : j = k := by omega
            rw [← rd24_get hlt]
            exact hpk
        case measure => simp [intOf]; omega
      · have he : idx p xs = k := idx_some hlt (by rw [← rd24_get hlt]; exact hpk) (fun j hj => hJs j (by omega) hj)
        gi_wp2
        go_ret
        exact ⟨by rw [he]; rfl, hB1⟩
    · obtain rfl : k = xs.length := by omega
      have he : idx p xs = -1 := idx_none (fun j hj => hJs j hj hj)
      gi_wp2
      go_ret
      exact ⟨by rw [he]; rfl, hB⟩
theorem contains47_calls (pf : Nat) (lb : Array Value) (p : S24 → Bool) (A : Option Addr) (c : Nat) (xs : List S24) (w : World) (hr : Kd.C k24 w A xs.length xs) (hc : xs.length ≤ c) (hxs : xs.length ≤ 9223372036854775807)
    (epf : ∀ args w, (callFunc pf args).run Try.prog w = .ok (.enter pf args) w)
    (hp : ∀ (x : S24) (W : World), Below w.heap.size w W → Calls Try.prog pf (#[.agg #[.bool x.f0, .int .i64 x.f1, .string x.f2]] ++ lb) W fun e W' => e = .returned (.bool (p x)) ∧ Below W.heap.size W W') :
    Calls Try.prog 47 #[.slice A xs.length c, .func (.func pf) #[] lb] w fun e w' => e = .returned (.bool (xs.any p)) ∧ Below w.heap.size w w' := by
  go_enter Try.func47, Try.ntmps47
  go_wp2_with fail
  refine (index72_calls pf lb p A c xs w hr hc hxs epf hp).mono ?_
  rintro e W1 ⟨rfl, hb⟩
  go_wp2
  go_ret
  exact ⟨by rw [← idx_any]; rfl, hb⟩
set_option maxRecDepth 100000 in
set_option maxHeartbeats 4000000 in
theorem index71_calls (pf : Nat) (lb : Array Value) (p : ByteArray → Bool) (A : Option Addr) (c : Nat) (xs : List ByteArray) (w : World) (hr : Kd.C Kd.string w A xs.length xs) (hc : xs.length ≤ c) (hxs : xs.length ≤ 9223372036854775807)
    (epf : ∀ args w, (callFunc pf args).run Try.prog w = .ok (.enter pf args) w)
    (hp : ∀ (x : ByteArray) (W : World), Below w.heap.size w W → Calls Try.prog pf (#[.string x] ++ lb) W fun e W' => e = .returned (.bool (p x)) ∧ Below W.heap.size W W') :
    Calls Try.prog 71 #[.slice A xs.length c, .func (.func pf) #[] lb] w fun e w' => e = .returned (.int .i64 (idx p xs)) ∧ Below w.heap.size w w' := by
  refine (callsIn_wide (n := 9)).1 (callsIn_of_wp Try.func71 rfl trivial ?_ rfl)
  simp only [Try.ntmps71, List.size_toArray, List.length_cons, List.length_nil, Nat.reduceAdd, Nat.reduceSub, Array.replicate_succ, Array.replicate_zero, List.push_toArray, List.append_toArray, List.nil_append, List.cons_append]
  gi_wp2
  gi_loopw [8] (fun v wr => ∃ k : Nat, k ≤ xs.length ∧ v = .int .i64 k ∧ (∀ j, (hj : j < xs.length) → j < k → p xs[j] = false) ∧ Below w.heap.size w wr)
    (fun v _ => xs.length - (intOf v).toNat)
  case atStart => exact ⟨0, by omega, rfl, fun j _ h => absurd h (by omega), Below.refl _ _⟩
  case round =>
    obtain ⟨k, hk, rfl, hJs, hB⟩ := hrel
    by_cases hlt : k < xs.length
    · obtain ⟨ad, rfl, r0⟩ := Kd.at_string hr (k : Int) (by omega) (by omega)
      have q0 := (hB.cell (World.block_lt_of_cell? w _ r0)).trans r0
      simp only [Int.toNat_natCast] at q0
      clear r0
      gi_wp2_with fail
      refine ⟨trivial, (callsIn_wide.2 (hp (rdOf ByteArray.empty xs (k : Int)) _ hB)).mono ?_⟩
      rintro e W1 ⟨rfl, hb⟩
      have hw : wrap64 ((k : Int) + 1) = (k : Int) + 1 := by unfold wrap64; omega
      have hB1 : Below w.heap.size w W1 := below_step hB hb
      clear hb q0
      cases hpk : p (rdOf ByteArray.empty xs (k : Int))
      · gi_wp2
        go_roundw
        case rel =>
          refine ⟨k + 1, by omega, by simp, fun j hj h => ?_, hB1⟩
          by_cases hjk : j < k
          · exact hJs j hj hjk
          · obtain rfl : j = k := by omega
            rw [← rdS_get hlt]
            exact hpk
        case measure => simp [intOf]; omega
      · have he : idx p xs = k := idx_some hlt (by rw [← rdS_get hlt]; exact hpk) (fun j hj => hJs j (by omega) hj)
        gi_wp2
        go_ret
        exact ⟨by rw [he]; rfl, hB1⟩
    · obtain rfl : k = xs.length := by omega
      have he : idx p xs = -1 := idx_none (fun j hj => hJs j hj hj)
      gi_wp2
      go_ret
      exact ⟨by rw [he]; rfl, hB⟩
theorem contains46_calls (pf : Nat) (lb : Array Value) (p : ByteArray → Bool) (A : Option Addr) (c : Nat) (xs : List ByteArray) (w : World) (hr : Kd.C Kd.string w A xs.length xs) (hc : xs.length ≤ c) (hxs : xs.length ≤ 9223372036854775807)
    (epf : ∀ args w, (callFunc pf args).run Try.prog w = .ok (.enter pf args) w)
    (hp : ∀ (x : ByteArray) (W : World), Below w.heap.size w W → Calls Try.prog pf (#[.string x] ++ lb) W fun e W' => e = .returned (.bool (p x)) ∧ Below W.heap.size W W') :
    Calls Try.prog 46 #[.slice A xs.length c, .func (.func pf) #[] lb] w fun e w' => e = .returned (.bool (xs.any p)) ∧ Below w.heap.size w w' := by
  go_enter Try.func46, Try.ntmps46
  go_wp2_with fail
  refine (index71_calls pf lb p A c xs w hr hc hxs epf hp).mono ?_
  rintro e W1 ⟨rfl, hb⟩
  go_wp2
  go_ret
  exact ⟨by rw [← idx_any]; rfl, hb⟩
end Go.Proofs.Ytcfinlmocgbnbaa.Pr
