/-
  A part of what the row IdealKeeps reaches, laid together by a program of this session (wip/tools/shake.py) out of this seat's texts. No condition but the ones that each lemma names.
-/
import Derived.Carry
import Derived.Test.YtmkncddbecmlpaaZIdealKeeps1
set_option linter.unusedVariables false
set_option linter.unusedSimpArgs false
section
namespace Go.Proofs.Ytmkncddbecmlpaa.Pr
open Go.RowKit Go.Shelf Go.Proofs.Ytmkncddbecmlpaa.XB Go.Proofs.YtmkncddbecmlpaaW.PrintWords
attribute [local go_sem] Oper.semAt_some
set_option linter.unusedVariables false
def idx {α : Type} (p : α → Bool) (xs : List α) : Int := match xs.findIdx? p with | some i => i | none => -1
theorem idx_none {α : Type} {p : α → Bool} {xs : List α} (h : ∀ j, (hj : j < xs.length) → p xs[j] = false) : idx p xs = -1 := by
  unfold idx
  rw [List.findIdx?_eq_none_iff.2]
  intro x hx
  obtain ⟨j, hj, rfl⟩ := List.getElem_of_mem hx
  exact h j hj
theorem idx_some {α : Type} {p : α → Bool} {xs : List α} {k : Nat} (hk : k < xs.length) (hp : p xs[k] = true) (h : ∀ j, (hj : j < k) → p (xs[j]'(by omega)) = false) : idx p xs = k := by
  unfold idx
  rw [List.findIdx?_eq_some_iff_getElem.2 ⟨hk, hp, fun j hj => by simp [h j hj]⟩]
theorem idx_cases {α : Type} (p : α → Bool) (xs : List α) : (idx p xs = -1 ∧ xs.find? p = none) ∨ ∃ k, ∃ hk : k < xs.length, idx p xs = k ∧ xs.find? p = some xs[k] := by
  unfold idx
  cases h : xs.findIdx? p with
  | none => exact .inl ⟨rfl, by rw [List.find?_eq_none]; rw [List.findIdx?_eq_none_iff] at h; intro x hx; simp [h x hx]⟩
  | some i =>
    obtain ⟨hi, hp, hj⟩ := List.findIdx?_eq_some_iff_getElem.1 h
    exact .inr ⟨i, hi, rfl, by rw [List.find?_eq_some_iff_getElem]; exact ⟨hp, i, hi, rfl, fun j hj' => by simpa using hj j hj'⟩⟩
theorem idx_any {α : Type} (p : α → Bool) (xs : List α) : decide (idx p xs ≥ 0) = xs.any p := by
  rcases idx_cases p xs with ⟨h1, h2⟩ | ⟨k, hk, h1, h2⟩
  · rw [h1]
    rw [List.find?_eq_none] at h2
    have : xs.any p = false := by rw [List.any_eq_false]; exact h2
    rw [this]
    rfl
  · rw [h1]
    have h3 := List.find?_some h2
    have : xs.any p = true := List.any_eq_true.2 ⟨_, List.getElem_mem hk, h3⟩
    rw [this]
    simp
theorem rd72_get {xs : List S72} {k : Nat} (h : k < xs.length) : rd_T72 xs k = xs[k] := by
  unfold rd_T72
  simp [h]
theorem rd74_get {xs : List S74} {k : Nat} (h : k < xs.length) : rd_T74 xs k = xs[k] := by
  unfold rd_T74
  simp [h]
set_option maxRecDepth 100000 in
set_option maxHeartbeats 4000000 in
theorem index71_calls (pf : Nat) (lb : Array Value) (p : S72 → Bool) (A : Option Addr) (c : Nat) (xs : List S72) (w : World) (hr : Kd.C k72 w A xs.length xs) (hc : xs.length ≤ c) (hxs : xs.length ≤ 9223372036854775807)
    (epf : ∀ args w, (callFunc pf args).run Try.prog w = .ok (.enter pf args) w)
    (hp : ∀ (x : S72) (W : World), Below w.heap.size w W → Calls Try.prog pf (#[.agg #[.string x.f0, .string x.f1]] ++ lb) W fun e W' => e = .returned (.bool (p x)) ∧ Below W.heap.size W W') :
    Calls Try.prog 71 #[.slice A xs.length c, .func (.func pf) #[] lb] w fun e w' => e = .returned (.int .i64 (idx p xs)) ∧ Below w.heap.size w w' := by
  refine (callsIn_wide (n := 9)).1 (callsIn_of_wp Try.func71 rfl trivial ?_ rfl)
  simp only [Try.ntmps71, List.size_toArray, List.length_cons, List.length_nil, Nat.reduceAdd, Nat.reduceSub, Array.replicate_succ, Array.replicate_zero, List.push_toArray, List.append_toArray, List.nil_append, List.cons_append]
  gi_wp2
  gi_loopw [8] (fun v wr => ∃ k : Nat, k ≤ xs.length ∧ v = .int .i64 k ∧ (∀ j, (hj : j < xs.length) → j < k → p xs[j] = false) ∧ Below w.heap.size w wr)
    (fun v _ => xs.length - (intOf v).toNat)
  case atStart => exact ⟨0, by omega, rfl, fun j _ h => absurd h (by omega), Below.refl _ _⟩
  case round =>
    obtain ⟨k, hk, rfl, hJs, hB⟩ := hrel
    by_cases hlt : k < xs.length
    · obtain ⟨ad, rfl, r0, r1⟩ := at_T72 hr (k : Int) (by omega) (by omega)
      have q0 := (hB.cell (World.block_lt_of_cell? w _ r0)).trans r0
      have q1 := (hB.cell (World.block_lt_of_cell? w _ r1)).trans r1
      simp only [Int.toNat_natCast] at q0 q1
      clear r0 r1
      gi_wp2_with fail
      refine ⟨trivial, (callsIn_wide.2 (hp (rd_T72 xs (k : Int)) _ hB)).mono ?_⟩
      rintro e W1 ⟨rfl, hb⟩
      have hw : wrap64 ((k : Int) + 1) = (k : Int) + 1 := by unfold wrap64; omega
      have hB1 : Below w.heap.size w W1 := below_step hB hb
      clear hb q0 q1
      cases hpk : p (rd_T72 xs (k : Int))
      · gi_wp2
        go_roundw
        case rel =>
          refine ⟨k + 1, by omega, by simp, fun j hj h => ?_, hB1⟩
          by_cases hjk : j < k
          · exact hJs j hj hjk
          · obtain rfl : j = k := by omega
            rw [← rd72_get hlt]
            exact hpk
        case measure => simp [intOf]; omega
      · have he : idx p xs = k := idx_some hlt (by rw [← rd72_get hlt]; exact hpk) (fun j hj => hJs j (by omega) hj)
        gi_wp2
        go_ret
        exact ⟨by rw [he]; rfl, hB1⟩
    · obtain rfl : k = xs.length := by omega
      have he : idx p xs = -1 := idx_none (fun j hj => hJs j hj hj)
      gi_wp2
      go_ret
      exact ⟨by rw [he]; rfl, hB⟩
theorem contains57_calls (pf : Nat) (lb : Array Value) (p : S72 → Bool) (A : Option Addr) (c : Nat) (xs : List S72) (w : World) (hr : Kd.C k72 w A xs.length xs) (hc : xs.length ≤ c) (hxs : xs.length ≤ 9223372036854775807)
    (epf : ∀ args w, (callFunc pf args).run Try.prog w = .ok (.enter pf args) w)
    (hp : ∀ (x : S72) (W : World), Below w.heap.size w W → Calls Try.prog pf (#[.agg #[.string x.f0, .string x.f1]] ++ lb) W fun e W' => e = .returned (.bool (p x)) ∧ Below W.heap.size W W') :
    Calls Try.prog 57 #[.slice A xs.length c, .func (.func pf) #[] lb] w fun e w' => e = .returned (.bool (xs.any p)) ∧ Below w.heap.size w w' := by
  go_enter Try.func57, Try.ntmps57
  go_wp2_with fail
  refine (index71_calls pf lb p A c xs w hr hc hxs epf hp).mono ?_
  rintro e W1 ⟨rfl, hb⟩
  go_wp2
  go_ret
  exact ⟨by rw [← idx_any]; rfl, hb⟩
def fnd {α : Type} (z : α) (p : α → Bool) (xs : List α) : α × Bool := match xs.find? p with | some x => (x, true) | none => (z, false)
set_option maxRecDepth 100000 in
set_option maxHeartbeats 4000000 in
theorem find50_calls (pf : Nat) (lb : Array Value) (p : S72 → Bool) (A : Option Addr) (c : Nat) (xs : List S72) (w : World) (hr : Kd.C k72 w A xs.length xs) (hc : xs.length ≤ c) (hxs : xs.length ≤ 9223372036854775807)
    (epf : ∀ args w, (callFunc pf args).run Try.prog w = .ok (.enter pf args) w)
    (hp : ∀ (x : S72) (W : World), Below w.heap.size w W → Calls Try.prog pf (#[.agg #[.string x.f0, .string x.f1]] ++ lb) W fun e W' => e = .returned (.bool (p x)) ∧ Below W.heap.size W W') :
    Calls Try.prog 50 #[.slice A xs.length c, .func (.func pf) #[] lb] w fun e w' => e = .returned (.tuple #[.agg #[.string (fnd z72 p xs).1.f0, .string (fnd z72 p xs).1.f1], .bool (fnd z72 p xs).2]) ∧ Below w.heap.size w w' := by
  go_enter Try.func50, Try.ntmps50
  go_wp2_with fail
  generalize hU : w.alloc _ = U
  have HU : Below w.heap.size w U := by rw [← hU]; exact below_alloc (Below.refl _ _) _
  have G0 : U.heap[w.heap.size]? = some (.cells #[.string default, .string default] 72 (0, 0)) := by rw [← hU]; exact heap_alloc_new _ _
  clear hU
  refine (index71_calls pf lb p A c xs U (Kd.C_below hr HU) hc hxs epf (fun x W hb => hp x W (below_step HU hb))).mono ?_
  rintro e W1 ⟨rfl, hb⟩
  have HW : Below w.heap.size w W1 := below_step HU hb
  have G1 := blk_same G0 hb
  have hr1 := Kd.C_below hr HW
  have c0 := (blk_cell G1 0).trans rfl
  have c1 := (blk_cell G1 1).trans rfl
  have d0 := blk_frozen G1 0
  have d1 := blk_frozen G1 1
  rcases idx_cases p xs with ⟨h1, h2⟩ | ⟨k, hk, h1, h2⟩
  · rw [h1]
    go_wp2
    have X := XB.put21 (XB.put20 G1 (.string default)) (.string default)
    refine bodyPost_ret (XB.resultsX_list (rs := [.cell 4 72, .tmp 5]) rfl (by simp) (.cell _ _ _ _ _ rfl X Try.underlying72 rfl rfl (.tmp .nil))) rfl ?_
    exact ⟨by unfold fnd; rw [h2]; rfl, below_set (below_set HW (Nat.le_refl _)) (Nat.le_refl _)⟩
  · rw [h1]
    obtain ⟨ad, rfl, r0, r1⟩ := at_T72 hr1 (k : Int) (by omega) (by omega)
    simp only [Int.toNat_natCast] at r0 r1
    have hk0 : ¬ (k : Int) < 0 := by omega
    go_wp2
    have X := XB.put21 (XB.put20 G1 (.string (rd_T72 xs k).f0)) (.string (rd_T72 xs k).f1)
    refine bodyPost_ret (XB.resultsX_list (rs := [.cell 4 72, .tmp 5]) rfl (by simp) (.cell _ _ _ _ _ rfl X Try.underlying72 rfl rfl (.tmp .nil))) rfl ?_
    exact ⟨by unfold fnd; rw [h2]; dsimp only; rw [← rd72_get hk]; rfl, below_set (below_set HW (Nat.le_refl _)) (Nat.le_refl _)⟩
set_option maxRecDepth 100000 in
set_option maxHeartbeats 4000000 in
theorem index74_calls (pf : Nat) (lb : Array Value) (p : S74 → Bool) (A : Option Addr) (c : Nat) (xs : List S74) (w : World) (hr : Kd.C k74 w A xs.length xs) (hc : xs.length ≤ c) (hxs : xs.length ≤ 9223372036854775807)
    (epf : ∀ args w, (callFunc pf args).run Try.prog w = .ok (.enter pf args) w)
    (hp : ∀ (x : S74) (W : World), Below w.heap.size w W → Calls Try.prog pf (#[.agg #[.string x.f0, .string x.f1, .string x.f2]] ++ lb) W fun e W' => e = .returned (.bool (p x)) ∧ Below W.heap.size W W') :
    Calls Try.prog 74 #[.slice A xs.length c, .func (.func pf) #[] lb] w fun e w' => e = .returned (.int .i64 (idx p xs)) ∧ Below w.heap.size w w' := by
  refine (callsIn_wide (n := 9)).1 (callsIn_of_wp Try.func74 rfl trivial ?_ rfl)
  simp only [Try.ntmps74, List.size_toArray, List.length_cons, List.length_nil, Nat.reduceAdd, Nat.reduceSub, Array.replicate_succ, Array.replicate_zero, List.push_toArray, List.append_toArray, List.nil_append, List.cons_append]
  gi_wp2
  gi_loopw [8] (fun v wr => ∃ k : Nat, k ≤ xs.length ∧ v = .int .i64 k ∧ (∀ j, (hj : j < xs.length) → j < k → p xs[j] = false) ∧ Below w.heap.size w wr)
    (fun v _ => xs.length - (intOf v).toNat)
  case atStart => exact ⟨0, by omega, rfl, fun j _ h => absurd h (by omega), Below.refl _ _⟩
  case round =>
    obtain ⟨k, hk, rfl, hJs, hB⟩ := hrel
    by_cases hlt : k < xs.length
    · obtain ⟨ad, rfl, r0, r1, r2⟩ := at_T74 hr (k : Int) (by omega) (by omega)
      have q0 := (hB.cell (World.block_lt_of_cell? w _ r0)).trans r0
      have q1 := (hB.cell (World.block_lt_of_cell? w _ r1)).trans r1
      have q2 := (hB.cell (World.block_lt_of_cell? w _ r2)).trans r2
      simp only [Int.toNat_natCast] at q0 q1 q2
      clear r0 r1 r2
      gi_wp2_with fail
      refine ⟨trivial, (callsIn_wide.2 (hp (rd_T74 xs (k : Int)) _ hB)).mono ?_⟩
      rintro e W1 ⟨rfl, hb⟩
      have hw : wrap64 ((k : Int) + 1) = (k : Int) + 1 := by unfold wrap64; omega
      have hB1 : Below w.heap.size w W1 := below_step hB hb
      clear hb q0 q1 q2
      cases hpk : p (rd_T74 xs (k : Int))
      · gi_wp2
        go_roundw
        case rel =>
          refine ⟨k + 1, by omega, by simp, fun j hj h => ?_, hB1⟩
          by_cases hjk : j < k
          · exact hJs j hj hjk
          · obtain rfl : j = k := by omega
            rw [← rd74_get hlt]
            exact hpk
        case measure => simp [intOf]; omega
      · have he : idx p xs = k := idx_some hlt (by rw [← rd74_get hlt]; exact hpk) (fun j hj => hJs j (by omega) hj)
        gi_wp2
        go_ret
        exact ⟨by rw [he]; rfl, hB1⟩
    · obtain rfl : k = xs.length := by omega
      have he : idx p xs = -1 := idx_none (fun j hj => hJs j hj hj)
      gi_wp2
      go_ret
      exact ⟨by rw [he]; rfl, hB⟩
theorem contains58_calls (pf : Nat) (lb : Array Value) (p : S74 → Bool) (A : Option Addr) (c : Nat) (xs : List S74) (w : World) (hr : Kd.C k74 w A xs.length xs) (hc : xs.length ≤ c) (hxs : xs.length ≤ 9223372036854775807)
    (epf : ∀ args w, (callFunc pf args).run Try.prog w = .ok (.enter pf args) w)
    (hp : ∀ (x : S74) (W : World), Below w.heap.size w W → Calls Try.prog pf (#[.agg #[.string x.f0, .string x.f1, .string x.f2]] ++ lb) W fun e W' => e = .returned (.bool (p x)) ∧ Below W.heap.size W W') :
    Calls Try.prog 58 #[.slice A xs.length c, .func (.func pf) #[] lb] w fun e w' => e = .returned (.bool (xs.any p)) ∧ Below w.heap.size w w' := by
  go_enter Try.func58, Try.ntmps58
  go_wp2_with fail
  refine (index74_calls pf lb p A c xs w hr hc hxs epf hp).mono ?_
  rintro e W1 ⟨rfl, hb⟩
  go_wp2
  go_ret
  exact ⟨by rw [← idx_any]; rfl, hb⟩
set_option maxRecDepth 100000 in
set_option maxHeartbeats 4000000 in
theorem find65_calls (pf : Nat) (lb : Array Value) (p : S74 → Bool) (A : Option Addr) (c : Nat) (xs : List S74) (w : World) (hr : Kd.C k74 w A xs.length xs) (hc : xs.length ≤ c) (hxs : xs.length ≤ 9223372036854775807)
    (epf : ∀ args w, (callFunc pf args).run Try.prog w = .ok (.enter pf args) w)
    (hp : ∀ (x : S74) (W : World), Below w.heap.size w W → Calls Try.prog pf (#[.agg #[.string x.f0, .string x.f1, .string x.f2]] ++ lb) W fun e W' => e = .returned (.bool (p x)) ∧ Below W.heap.size W W') :
    Calls Try.prog 65 #[.slice A xs.length c, .func (.func pf) #[] lb] w fun e w' => e = .returned (.tuple #[.agg #[.string (fnd z74 p xs).1.f0, .string (fnd z74 p xs).1.f1, .string (fnd z74 p xs).1.f2], .bool (fnd z74 p xs).2]) ∧ Below w.heap.size w w' := by
  go_enter Try.func65, Try.ntmps65
  go_wp2_with fail
  generalize hU : w.alloc _ = U
  have HU : Below w.heap.size w U := by rw [← hU]; exact below_alloc (Below.refl _ _) _
  have G0 : U.heap[w.heap.size]? = some (.cells #[.string default, .string default, .string default] 74 (0, 0)) := by rw [← hU]; exact heap_alloc_new _ _
  clear hU
  refine (index74_calls pf lb p A c xs U (Kd.C_below hr HU) hc hxs epf (fun x W hb => hp x W (below_step HU hb))).mono ?_
  rintro e W1 ⟨rfl, hb⟩
  have HW : Below w.heap.size w W1 := below_step HU hb
  have G1 := blk_same G0 hb
  have hr1 := Kd.C_below hr HW
  have c0 := (blk_cell G1 0).trans rfl
  have c1 := (blk_cell G1 1).trans rfl
  have c2 := (blk_cell G1 2).trans rfl
  have d2 := blk_frozen G1 2
  have d0 := blk_frozen G1 0
  have d1 := blk_frozen G1 1
  rcases idx_cases p xs with ⟨h1, h2⟩ | ⟨k, hk, h1, h2⟩
  · rw [h1]
    go_wp2
    have X := XB.put32 (XB.put31 (XB.put30 G1 (.string default)) (.string default)) (.string default)
    refine bodyPost_ret (XB.resultsX_list (rs := [.cell 4 74, .tmp 5]) rfl (by simp) (.cell _ _ _ _ _ rfl X Try.underlying74 rfl rfl (.tmp .nil))) rfl ?_
    exact ⟨by unfold fnd; rw [h2]; rfl, below_set (below_set (below_set HW (Nat.le_refl _)) (Nat.le_refl _)) (Nat.le_refl _)⟩
  · rw [h1]
    obtain ⟨ad, rfl, r0, r1, r2⟩ := at_T74 hr1 (k : Int) (by omega) (by omega)
    simp only [Int.toNat_natCast] at r0 r1 r2
    have hk0 : ¬ (k : Int) < 0 := by omega
    go_wp2
    have X := XB.put32 (XB.put31 (XB.put30 G1 (.string (rd_T74 xs k).f0)) (.string (rd_T74 xs k).f1)) (.string (rd_T74 xs k).f2)
    refine bodyPost_ret (XB.resultsX_list (rs := [.cell 4 74, .tmp 5]) rfl (by simp) (.cell _ _ _ _ _ rfl X Try.underlying74 rfl rfl (.tmp .nil))) rfl ?_
    exact ⟨by unfold fnd; rw [h2]; dsimp only; rw [← rd74_get hk]; rfl, below_set (below_set (below_set HW (Nat.le_refl _)) (Nat.le_refl _)) (Nat.le_refl _)⟩
end Go.Proofs.Ytmkncddbecmlpaa.Pr
end
section
namespace Go.Proofs.Ytmkncddbecmlpaa.Pr
open Go.RowKit Go.Shelf Go.Proofs.Ytmkncddbecmlpaa.XB Go.Proofs.YtmkncddbecmlpaaW.PrintWords
attribute [local go_sem] Oper.semAt_some
set_option linter.unusedVariables false
def oddName (n : S72) : Bool := decide ((n.f0.size : Int) > 100) || decide ((n.f1.size : Int) ≠ 16)
def oddCell (c : S74) : Bool := decide ((c.f0.size : Int) ≠ 16) || decide ((c.f1.size : Int) ≠ 24) || decide ((c.f2.size : Int) ≠ 40)
theorem str_eq (a b : ByteArray) : (a.toList == b.toList) = decide (a = b) := by
  have h : a.toList = b.toList ↔ a = b := by
    rw [ByteArray.toList_eq, ByteArray.toList_eq]
    constructor
    · intro h
      obtain ⟨⟨x⟩⟩ := a
      obtain ⟨⟨y⟩⟩ := b
      simp at h
      rw [h]
    · rintro rfl; rfl
  by_cases h1 : a = b <;> simp [h, h1]
set_option maxRecDepth 100000 in
theorem oddName_calls (x : S72) (w : World) : Calls Try.prog 55 #[.agg #[.string x.f0, .string x.f1]] w fun e w' => e = .returned (.bool (oddName x)) ∧ Below w.heap.size w w' := by
  go_enter Try.func55, Try.ntmps55
  by_cases h : (x.f0.size : Int) > 100
  · go_wp2
    go_ret
    exact ⟨by simp [oddName, h], below_alloc (Below.refl _ _) _⟩
  · go_wp2
    go_ret
    refine ⟨?_, below_alloc (Below.refl _ _) _⟩
    by_cases h2 : (x.f1.size : Int) = 16 <;> simp [oddName, h2] <;> omega
set_option maxRecDepth 100000 in
theorem oddCell_calls (x : S74) (w : World) : Calls Try.prog 56 #[.agg #[.string x.f0, .string x.f1, .string x.f2]] w fun e w' => e = .returned (.bool (oddCell x)) ∧ Below w.heap.size w w' := by
  go_enter Try.func56, Try.ntmps56
  by_cases h : (x.f0.size : Int) = 16
  · by_cases h1 : (x.f1.size : Int) = 24
    · go_wp2
      go_ret
      refine ⟨?_, below_alloc (Below.refl _ _) _⟩
      by_cases h2 : (x.f2.size : Int) = 40 <;> simp [oddCell, h, h1, h2]
    · go_wp2
      go_ret
      refine ⟨?_, below_alloc (Below.refl _ _) _⟩
      simp [oddCell, h, h1]
  · go_wp2
    go_ret
    refine ⟨?_, below_alloc (Below.refl _ _) _⟩
    simp [oddCell, h]
set_option maxRecDepth 100000 in
theorem askIn_calls (x : S72) (t : ByteArray) (b : Nat) (w0 w : World) (hb : w0.heap[b]? = some (.cells #[.string t] 9 (0, 0))) (hw : Below w0.heap.size w0 w) :
    Calls Try.prog 51 (#[.agg #[.string x.f0, .string x.f1]] ++ #[.pointer (some ⟨b, 0, none⟩)]) w fun e w' => e = .returned (.bool (decide (x.f0 = t))) ∧ Below w.heap.size w w' := by
  have hb' := blk_same hb hw
  have c2 := fun (o : Obj) => (blk_cell (blk_alloc hb' o) 0).trans rfl
  go_enter Try.func51, Try.ntmps51
  go_wp2
  go_ret
  exact ⟨by simp [str_eq], below_alloc (Below.refl _ _) _⟩
set_option maxRecDepth 100000 in
theorem askText_calls (x : S74) (l t : ByteArray) (b1 b2 : Nat) (w0 w : World) (h1 : w0.heap[b1]? = some (.cells #[.string l] 9 (0, 0))) (h2 : w0.heap[b2]? = some (.cells #[.string t] 9 (0, 0))) (hw : Below w0.heap.size w0 w) :
    Calls Try.prog 66 (#[.agg #[.string x.f0, .string x.f1, .string x.f2]] ++ #[.pointer (some ⟨b1, 0, none⟩), .pointer (some ⟨b2, 0, none⟩)]) w fun e w' => e = .returned (.bool (decide (x.f0 = l) && decide (x.f1 = t))) ∧ Below w.heap.size w w' := by
  have h1' := blk_same h1 hw
  have h2' := blk_same h2 hw
  have c1 := fun (o : Obj) => (blk_cell (blk_alloc h1' o) 0).trans rfl
  have c2 := fun (o : Obj) => (blk_cell (blk_alloc h2' o) 0).trans rfl
  go_enter Try.func66, Try.ntmps66
  have hs := str_eq x.f0 l
  by_cases h : x.f0 = l
  · simp only [h, decide_true] at hs
    rw [h]
    go_wp2
    go_ret
    exact ⟨by simp [str_eq], below_alloc (Below.refl _ _) _⟩
  · simp only [h, decide_false] at hs
    go_wp2
    go_ret
    exact ⟨by simp [h], below_alloc (Below.refl _ _) _⟩
set_option maxRecDepth 100000 in
theorem askCell_calls (x : S74) (l t : ByteArray) (b1 b2 : Nat) (w0 w : World) (h1 : w0.heap[b1]? = some (.cells #[.string l] 9 (0, 0))) (h2 : w0.heap[b2]? = some (.cells #[.string t] 9 (0, 0))) (hw : Below w0.heap.size w0 w) :
    Calls Try.prog 67 (#[.agg #[.string x.f0, .string x.f1, .string x.f2]] ++ #[.pointer (some ⟨b1, 0, none⟩), .pointer (some ⟨b2, 0, none⟩)]) w fun e w' => e = .returned (.bool (decide (x.f0 = l) && decide (x.f2 = t))) ∧ Below w.heap.size w w' := by
  have h1' := blk_same h1 hw
  have h2' := blk_same h2 hw
  have c1 := fun (o : Obj) => (blk_cell (blk_alloc h1' o) 0).trans rfl
  have c2 := fun (o : Obj) => (blk_cell (blk_alloc h2' o) 0).trans rfl
  go_enter Try.func67, Try.ntmps67
  have hs := str_eq x.f0 l
  by_cases h : x.f0 = l
  · simp only [h, decide_true] at hs
    rw [h]
    go_wp2
    go_ret
    exact ⟨by simp [str_eq], below_alloc (Below.refl _ _) _⟩
  · simp only [h, decide_false] at hs
    go_wp2
    go_ret
    exact ⟨by simp [h], below_alloc (Below.refl _ _) _⟩
end Go.Proofs.Ytmkncddbecmlpaa.Pr
end
section
namespace Go.Proofs.Ytmkncddbecmlpaa.Pr
open Go.RowKit Go.Shelf Go.Proofs.Ytmkncddbecmlpaa.XB Go.Proofs.YtmkncddbecmlpaaW.PrintWords
set_option linter.unusedVariables false
def ideal_find_51.f (l : List S72) (a : ByteArray) : Option (ByteArray × ByteArray × Bool) := some ((fnd z72 (fun n => decide (n.f0 = a)) l).1.f0, (fnd z72 (fun n => decide (n.f0 = a)) l).1.f1, (fnd z72 (fun n => decide (n.f0 = a)) l).2)
theorem ideal_find_51.calls (A : Option Addr) (c : Nat) (l : List S72) (a1 : ByteArray) (r1 r2 : ByteArray) (r3 : Bool) {b : Nat} (w : World) (hr : Kd.C k72 w A l.length l) (hc : l.length ≤ c) (hb : w.heap[b]? = some (.cells #[.string a1] 9 (0, 0))) (h : ideal_find_51.f l a1 = some (r1, r2, r3)) :
    Calls Try.prog 50 #[.slice A l.length c, .func (.func 51) #[] #[.pointer (some ⟨b, 0, none⟩)]] w fun e w' => e = .returned (.tuple #[.agg #[.string r1, .string r2], .bool r3]) ∧ Below w.heap.size w w' := by
  cases h
  exact find50_calls 51 _ _ A c l w hr hc (Kd.C_max hr) (enters_of Try.func51 (by kernel_rfl) rfl) (fun x W hW => askIn_calls x a1 b w W hb hW)
def ideal_find_66.f (l : List S74) (a1 a2 : ByteArray) : Option (ByteArray × ByteArray × ByteArray × Bool) :=
  some ((fnd z74 (fun n => decide (n.f0 = a1) && decide (n.f1 = a2)) l).1.f0, (fnd z74 (fun n => decide (n.f0 = a1) && decide (n.f1 = a2)) l).1.f1, (fnd z74 (fun n => decide (n.f0 = a1) && decide (n.f1 = a2)) l).1.f2, (fnd z74 (fun n => decide (n.f0 = a1) && decide (n.f1 = a2)) l).2)
theorem ideal_find_66.calls (A : Option Addr) (c : Nat) (l : List S74) (a1 a2 : ByteArray) (r1 r2 r3 : ByteArray) (r4 : Bool) {b1 b2 : Nat} (w : World) (hr : Kd.C k74 w A l.length l) (hc : l.length ≤ c) (hb1 : w.heap[b1]? = some (.cells #[.string a1] 9 (0, 0))) (hb2 : w.heap[b2]? = some (.cells #[.string a2] 9 (0, 0))) (h : ideal_find_66.f l a1 a2 = some (r1, r2, r3, r4)) :
    Calls Try.prog 65 #[.slice A l.length c, .func (.func 66) #[] #[.pointer (some ⟨b1, 0, none⟩), .pointer (some ⟨b2, 0, none⟩)]] w fun e w' => e = .returned (.tuple #[.agg #[.string r1, .string r2, .string r3], .bool r4]) ∧ Below w.heap.size w w' := by
  cases h
  exact find65_calls 66 _ _ A c l w hr hc (Kd.C_max hr) (enters_of Try.func66 (by kernel_rfl) rfl) (fun x W hW => askText_calls x a1 a2 b1 b2 w W hb1 hb2 hW)
def ideal_find_67.f (l : List S74) (a1 a2 : ByteArray) : Option (ByteArray × ByteArray × ByteArray × Bool) :=
  some ((fnd z74 (fun n => decide (n.f0 = a1) && decide (n.f2 = a2)) l).1.f0, (fnd z74 (fun n => decide (n.f0 = a1) && decide (n.f2 = a2)) l).1.f1, (fnd z74 (fun n => decide (n.f0 = a1) && decide (n.f2 = a2)) l).1.f2, (fnd z74 (fun n => decide (n.f0 = a1) && decide (n.f2 = a2)) l).2)
theorem ideal_find_67.calls (A : Option Addr) (c : Nat) (l : List S74) (a1 a2 : ByteArray) (r1 r2 r3 : ByteArray) (r4 : Bool) {b1 b2 : Nat} (w : World) (hr : Kd.C k74 w A l.length l) (hc : l.length ≤ c) (hb1 : w.heap[b1]? = some (.cells #[.string a1] 9 (0, 0))) (hb2 : w.heap[b2]? = some (.cells #[.string a2] 9 (0, 0))) (h : ideal_find_67.f l a1 a2 = some (r1, r2, r3, r4)) :
    Calls Try.prog 65 #[.slice A l.length c, .func (.func 67) #[] #[.pointer (some ⟨b1, 0, none⟩), .pointer (some ⟨b2, 0, none⟩)]] w fun e w' => e = .returned (.tuple #[.agg #[.string r1, .string r2, .string r3], .bool r4]) ∧ Below w.heap.size w w' := by
  cases h
  exact find65_calls 67 _ _ A c l w hr hc (Kd.C_max hr) (enters_of Try.func67 (by kernel_rfl) rfl) (fun x W hW => askCell_calls x a1 a2 b1 b2 w W hb1 hb2 hW)
end Go.Proofs.Ytmkncddbecmlpaa.Pr
end
section
namespace Go.Proofs.Ytmkncddbecmlpaa.Pr
open Go.RowKit Go.Shelf Go.Proofs.Ytmkncddbecmlpaa.XB Go.Proofs.YtmkncddbecmlpaaW.PrintWords Go.Proofs.YtmkncddbecmlpaaW.PrintLast Go.Proofs.YtmkncddbecmlpaaW.PrintMore
attribute [local go_sem] Oper.semAt_some
set_option linter.unusedVariables false
theorem eqA97 (d : Nat) (w : World) (x0 y0 : ByteArray) (x1 y1 : ByteArray) :
  (Op.equalIn (d + 2) 97 (.agg #[.string x0, .string x1]) (.agg #[.string y0, .string y1])).run Try.prog w = .ok (x0.toList == y0.toList && (x1.toList == y1.toList)) w := by
  refine eqA_of Try.underlying97 (by kernel_rfl) ?_
  refine eqf_cons (by rfl) (by go_simp; rfl) (by go_simp; rfl) (by go_simp) ?_
  exact eqf_last (by rfl) (by go_simp; rfl) (by go_simp; rfl) (by go_simp)
def pairV (p : ByteArray × ByteArray) : Value := .agg #[.string p.1, .string p.2]
theorem pair_eq (p q : ByteArray × ByteArray) : (p.1.toList == q.1.toList && (p.2.toList == q.2.toList)) = decide (p = q) := by
  have h : ∀ a b : ByteArray, a.toList = b.toList ↔ a = b := fun a b => by
    rw [ByteArray.toList_eq, ByteArray.toList_eq]
    constructor
    · intro h
      obtain ⟨⟨x⟩⟩ := a
      obtain ⟨⟨y⟩⟩ := b
      simp at h
      rw [h]
    · rintro rfl; rfl
  obtain ⟨a, b⟩ := p
  obtain ⟨c, d⟩ := q
  by_cases h1 : a = c <;> by_cases h2 : b = d <;> simp [h, h1, h2]
theorem ask_pair (w : World) (x : ByteArray × ByteArray) : ∀ (xs : List (ByteArray × ByteArray)) (es : List MapEntry) (i : Nat), es.map (·.key) = xs.map pairV → (∀ e ∈ es, e.val = .agg #[]) →
    (x ∈ xs ∧ ∃ j, (Instr.findAsking 97 (pairV x) es i).run Try.prog w = .ok (some (j, .agg #[])) w) ∨ (x ∉ xs ∧ (Instr.findAsking 97 (pairV x) es i).run Try.prog w = .ok none w)
  | [], [], i, _, _ => .inr ⟨by simp, rfl⟩
  | [], _ :: _, _, h, _ => by simp at h
  | _ :: _, [], _, h, _ => by simp at h
  | y :: ys, e :: es, i, h, hv => by
    simp only [List.map_cons, List.cons.injEq] at h
    obtain ⟨hk, hr⟩ := h
    have he : (Op.equal 97 (pairV x) e.key).run Try.prog w = .ok (decide (x = y)) w := by
      rw [hk, ← pair_eq]
      exact eqA97 _ w _ _ _ _
    by_cases hxy : x = y
    · subst hxy
      have he' : (Op.equal 97 (pairV x) e.key).run Try.prog w = .ok true w := by rw [he]; simp
      refine .inl ⟨by simp, i, ?_⟩
      simp [Instr.findAsking, he', hv e (by simp), Result.andThen]
    · rcases ask_pair w x ys es (i + 1) hr (fun e' he => hv e' (by simp [he])) with ⟨hm, j, hj⟩ | ⟨hm, hj⟩
      · exact .inl ⟨by simp [hm], j, by simp [Instr.findAsking, he, hxy, hj, Result.andThen]⟩
      · exact .inr ⟨by simp [hm, hxy], by simp [Instr.findAsking, he, hxy, hj, Result.andThen]⟩
theorem keys_pair : Keys Try.prog 97 pairV where
  check x e w := by
    rw [show (10000 : Nat) = 9998 + 1 + 1 from rfl]
    have hs : ∀ s : ByteArray, (Instr.checkKey e (9998 + 1) 9 (.string s)).run Try.prog w = .ok () w := fun s => by
      rw [Instr.checkKey]
      simp [run_underlying Try.underlying9, Result.andThen]
    rw [Instr.checkKey]
    simp [run_underlying Try.underlying97, Result.andThen, pairV]
    have p0 : (part 9 #[.string x.1, .string x.2] 0).run Try.prog w = .ok (.string x.1) w := by go_simp
    have p1 : (part 9 #[.string x.1, .string x.2] 1).run Try.prog w = .ok (.string x.2) w := by go_simp
    rw [p0]
    simp only []
    rw [hs]
    simp only []
    rw [p1]
    simp only []
    exact hs _
  find x xs es w h1 h2 := by
    have hf : (Instr.findKey 97 (pairV x) es).run Try.prog w = (Instr.findAsking 97 (pairV x) es).run Try.prog w := by
      cases es with
      | nil => simp [Instr.findKey, Instr.findNow, Instr.findAsking, run_underlying Try.underlying97, Result.andThen]
      | cons e es => simp [Instr.findKey, Instr.findNow, Instr.sameNow, run_underlying Try.underlying97, Result.andThen]
    rw [hf]
    exact ask_pair w x xs es 0 h1 h2
end Go.Proofs.Ytmkncddbecmlpaa.Pr
end
section
set_option linter.unusedVariables false
namespace Go.Proofs.Ytmkncddbecmlpaa.XB
open Go.RowKit Go.Shelf Go.Proofs.YtmkncddbecmlpaaW.PrintWords
variable {F : Fence} {n : Nat} {P : Program}
theorem wpIn_rangeFunc_box {g : Operand} {ps : Array Tmp} {assign body : Code} {Q : Exit → Act → World → Prop} {a : Act} {w : World}
    (hro : F.round = none) (h1 : 1 ≤ n) {gf : Nat} {lb : Array Value} (hg : a.eval g = .func (.func gf) #[] lb) (hFg : F.fn gf) (eg : ∀ args w, (callFunc gf args).run P w = .ok (.enter gf args) w)
    {vals : Nat → Array Value} {N : Nat} {Start : World → Prop} {Tch Kp : World → World → Prop} (hseq : IterSeq F (n - 1) P gf lb vals N Start Tch Kp)
    (hStart : OwnW w.heap.size Start) (hs0 : Start w) (hT : ∀ A B, Tch A B → KeepsFrom w.heap.size A B)
    (hKt : ∀ {A B C : World}, Kp A B → Kp B C → Kp A C) (hKb : ∀ (W : World) (l : Nat) (o o' : Obj), w.heap.size ≤ l → W.heap[l]? = some o → o.isCells = false → Kp W (W.putObj l o')) (hps : ∀ k, (vals k).size = ps.size)
    (I : Nat → World → Prop) (Ix : Code → Nat → World → Prop) (hI : ∀ k, OwnW w.heap.size (I k)) (hIx : ∀ c k, OwnW w.heap.size (Ix c k))
    (hIT : ∀ k A B, I k A → Tch A B → I k B) (hIxT : ∀ c k A B, Ix c k A → Tch A B → Ix c k B) (h0 : I 0 w) (a₁ : Nat → Nat → Act)
    (Jb : Nat → Nat → World → Prop) (hJb : ∀ k g, OwnW w.heap.size (Jb k g))
    (hassign : ∀ (l k : Nat) (W : World) (K : Act → World → Prop), I k W → k < N → (∀ g W1, Jb k g W1 → KeepsFrom w.heap.size W W1 → Kp W W1 → K (a₁ k g) W1) →
      assign.wpIn (F.inRound l) (n - 1 - 1) P (Exit.then K (fun _ _ _ => False)) { tmps := (ps.zip (vals k)).foldl (fun t (p, v) => t.setIfInBounds p v) a.tmps, defers := [] } W)
    (hbody : ∀ (l k g : Nat) (W : World), Jb k g W → k < N → body.wpIn (F.inRound l) (n - 1 - 1) P (seqPost w.heap.size Kp I Ix (k + 1) W) (a₁ k g) W)
    (hdone : ∀ (D : Nat) (W : World), w.heap.size ≤ D → I N W → W.heap[D]? = some (.deferred (some [])) → Q .normal { a with defers := { target := .collected D, args := #[] } :: a.defers } W)
    (hstop : ∀ (D : Nat) (c : Code) (k : Nat) (W : World), w.heap.size ≤ D → k ≤ N → Ix c k W → W.heap[D]? = some (.deferred (some [])) → c.wpIn F n P Q { a with defers := { target := .collected D, args := #[] } :: a.defers } W) :
    (Code.rangeFunc g ps assign body).wpIn F n P Q a w := by
  refine wpIn_rangeFunc ?_
  intro fn hfn
  rw [hro]
  obtain ⟨rec, hrec⟩ : ∃ rec : LoopState → Option Code → Loop, rec = fun st pe => { state := st, pending := pe, fn, tmps := a.tmps, params := ps, assign, body, defers := w.heap.size } := ⟨_, rfl⟩
  obtain ⟨W1, hW1⟩ : ∃ W1, (w.alloc (.deferred (some []))).alloc (.loop (rec .ready none)) = W1 := ⟨_, rfl⟩
  have hL1 : W1.heap[w.heap.size + 1]? = some (.loop (rec .ready none)) := by
    rw [← hW1]; have := World.alloc_heap_new (w.alloc (.deferred (some []))) (.loop (rec .ready none)); rwa [World.size_alloc] at this
  have hK1 : W1.heap[w.heap.size]? = some (.deferred (some [])) := by
    rw [← hW1]; exact (Below.heap_alloc _ _ _ (by simp)).trans (World.alloc_heap_new w _)
  have hI1 : I 0 W1 := by rw [← hW1]; exact (hI 0).alloc _ ((hI 0).alloc _ h0)
  have hS1 : Start W1 := by rw [← hW1]; exact hStart.alloc _ (hStart.alloc _ hs0)
  refine ⟨w.heap.size + 1, [{ target := .collected w.heap.size, args := #[] }], W1, { target := .fn (.func gf) lb, args := #[.func (.yield (w.heap.size + 1)) #[] #[]] }, W1, gf,
    #[.func (.yield (w.heap.size + 1)) #[] #[]] ++ lb, W1, ?_, ?_, ?_, ?_, fun _ => h1, ?_⟩
  · rw [← hW1, hrec]; exact run_enterLoop_outer _ _ _ _ _
  · simp only [resolve, hg]
    simp [go_sem]
  · intro f' hf'; simp [Target.leads] at hf'; subst hf'; exact hFg
  · simp [invoke, go_sem, eg]
  · refine (hseq (w.heap.size + 1)
      (fun k W => I k W ∧ W.heap[w.heap.size + 1]? = some (.loop (rec .ready none)) ∧ W.heap[w.heap.size]? = some (.deferred (some [])))
      (fun k W => ∃ c, Ix c k W ∧ W.heap[w.heap.size + 1]? = some (.loop (rec .done (some c))) ∧ W.heap[w.heap.size]? = some (.deferred (some [])))
      W1 hS1
      (fun k A B hs ht => ⟨hIT k A B hs.1 ht, (hT A B ht).same _ _ (by omega) hs.2.1 rfl, (hT A B ht).same _ _ (Nat.le_refl _) hs.2.2 rfl⟩)
      (fun k A B hs ht => by
        obtain ⟨c, hc, hl, hk⟩ := hs
        exact ⟨c, hIxT c k A B hc ht, (hT A B ht).same _ _ (by omega) hl rfl, (hT A B ht).same _ _ (Nat.le_refl _) hk rfl⟩)
      ?_ ⟨hI1, hL1, hK1⟩).mono ?_
    · rintro k W0 ⟨hi0, hl0, hk0⟩ hlen
      have hy := run_yield (P := P) (args := vals k) hl0 (by rw [hrec]; exact hps k)
      rw [hrec] at hy
      refine ⟨fn, _, assign, body, hy, roundIn_of_wpIn hfn (hassign _ k W0 _ hi0 hlen (fun g W hJ hkf hkp => ?_))⟩
      have hl : W.heap[w.heap.size + 1]? = some (.loop (rec .ready none)) := hkf.same _ _ (by omega) hl0 rfl
      have hk : W.heap[w.heap.size]? = some (.deferred (some [])) := hkf.same _ _ (Nat.le_refl _) hk0 rfl
      refine ⟨_, run_beginRound hl (by rw [hrec]), ?_⟩
      have hlt : w.heap.size + 1 < W.heap.size := (Array.getElem?_eq_some_iff.1 hl).1
      have hl2 : (W.putObj (w.heap.size + 1) (.loop { rec .ready none with state := .busy })).heap[w.heap.size + 1]? = some (.loop { rec .ready none with state := .busy }) := World.putObj_heap_same hlt
      have hk2 : (W.putObj (w.heap.size + 1) (.loop { rec .ready none with state := .busy })).heap[w.heap.size]? = some (.deferred (some [])) := (World.putObj_heap_other (by omega)).trans hk
      have hw2 : Kp W0 (W.putObj (w.heap.size + 1) (.loop { rec .ready none with state := .busy })) := hKt hkp (hKb _ _ _ _ (by omega) hl rfl)
      refine wpIn_mono (hbody _ k g _ ((hJb k g).putObj _ hJ (by omega) hl rfl) hlen) ?_
      have fin : ∀ (jump : Option Code) (W3 : World), KeepsFrom w.heap.size (W.putObj (w.heap.size + 1) (.loop { rec .ready none with state := .busy })) W3 →
          (Instr.endRound (w.heap.size + 1) jump).run P W3 = .ok (.bool jump.isNone) (W3.putObj (w.heap.size + 1) (.loop (rec (if jump.isNone then .ready else .done) jump))) ∧
          W3.heap[w.heap.size + 1]? = some (.loop { rec .ready none with state := .busy }) ∧
          (W3.putObj (w.heap.size + 1) (.loop (rec (if jump.isNone then .ready else .done) jump))).heap[w.heap.size + 1]? = some (.loop (rec (if jump.isNone then .ready else .done) jump)) ∧
          (W3.putObj (w.heap.size + 1) (.loop (rec (if jump.isNone then .ready else .done) jump))).heap[w.heap.size]? = some (.deferred (some [])) := fun jump W3 hk3 => by
        have hl3 := hk3.same _ _ (by omega) hl2 rfl
        have := run_endRound (P := P) jump hl3
        rw [hrec] at this ⊢
        exact ⟨this, by rw [hrec] at hl3; exact hl3, World.putObj_heap_same (Array.getElem?_eq_some_iff.1 hl3).1, (World.putObj_heap_other (by omega)).trans (hk3.same _ _ (Nat.le_refl _) hk2 rfl)⟩
      rintro e a3 W3 hp
      cases e with
      | normal =>
        obtain ⟨hk3, hkp3, hi3⟩ := hp
        obtain ⟨hr, hl3, hl4, hk4⟩ := fin none W3 hk3
        exact ⟨_, _, hr, .inl ⟨rfl, ⟨(hI _).putObj _ hi3 (by omega) hl3 rfl, hl4, hk4⟩, hKt (hKt hw2 hkp3) (hKb _ _ _ _ (by omega) hl3 rfl)⟩⟩
      | ret =>
        obtain ⟨hk3, hi3⟩ := hp
        obtain ⟨hr, hl3, hl4, hk4⟩ := fin (some .ret) W3 hk3
        exact ⟨_, _, hr, .inr ⟨rfl, .ret, (hIx _ _).putObj _ hi3 (by omega) hl3 rfl, hl4, hk4⟩⟩
      | exit id =>
        obtain ⟨hk3, hi3⟩ := hp
        obtain ⟨hr, hl3, hl4, hk4⟩ := fin (some (.exit id)) W3 hk3
        exact ⟨_, _, hr, .inr ⟨rfl, .exit id, (hIx _ _).putObj _ hi3 (by omega) hl3 rfl, hl4, hk4⟩⟩
      | goto t =>
        obtain ⟨hk3, hi3⟩ := hp
        obtain ⟨hr, hl3, hl4, hk4⟩ := fin (some (.goto t)) W3 hk3
        exact ⟨_, _, hr, .inr ⟨rfl, .goto t, (hIx _ _).putObj _ hi3 (by omega) hl3 rfl, hl4, hk4⟩⟩
      | panic ch => exact hp.elim
      | outgrown => exact hp.elim
    · rintro e W2 ⟨⟨v, rfl⟩, (⟨hi, hl, hk⟩ | ⟨k, hkN, c, hi, hl, hk⟩)⟩
      · exact ⟨none, _, by have := run_endLoop (P := P) hl (by rw [hrec]; simp); rw [hrec] at this; exact this, hdone _ _ (Nat.le_refl _) ((hI _).putObj _ hi (by omega) hl rfl) ((World.putObj_heap_other (by omega)).trans hk)⟩
      · exact ⟨some c, _, by have := run_endLoop (P := P) hl (by rw [hrec]; simp); rw [hrec] at this; exact this, hstop _ c k _ (Nat.le_refl _) hkN ((hIx c k).putObj _ hi (by omega) hl rfl) ((World.putObj_heap_other (by omega)).trans hk)⟩
end Go.Proofs.Ytmkncddbecmlpaa.XB
end
section
namespace Go.Proofs.Ytmkncddbecmlpaa.Pr
open Go.RowKit Go.Shelf Go.Proofs.Ytmkncddbecmlpaa.XB Go.Proofs.YtmkncddbecmlpaaW.PrintWords
attribute [local go_sem] Oper.semAt_some run_makeMap Result.andThen_ok
set_option linter.unusedVariables false
set_option maxRecDepth 100000 in
set_option maxHeartbeats 4000000 in
theorem twice97_calls (gf : Nat) (lb : Array Value) (vals : Nat → ByteArray × ByteArray) (N : Nat) (w : World) (eg : ∀ args w, (callFunc gf args).run Try.prog w = .ok (.enter gf args) w)
    (hseq : IterSeq Fence.wide 8 Try.prog gf lb (fun k => #[pairV (vals k)]) N (fun W => Below w.heap.size w W) (fun A B => Below A.heap.size A B) (fun A B => Below w.heap.size A B)) :
    Calls Try.prog 62 #[.func (.func gf) #[] lb] w fun e w' => e = .returned (.bool (dup (told vals N))) ∧ Below w.heap.size w w' := by
  refine (callsIn_wide (n := 9)).1 (callsIn_of_wp_marks Try.func62 rfl trivial ?_ rfl)
  refine XB.QM_wp ?_
  simp only [Try.ntmps62, List.size_toArray, List.length_cons, List.length_nil, Nat.reduceAdd, Nat.reduceSub, Array.replicate_succ, Array.replicate_zero, List.push_toArray, List.append_toArray, List.nil_append, List.cons_append]
  go_wp2
  have hz : ∀ w : World, (zeroValue 110).run Try.prog w = .ok (.agg #[]) w := fun w => by rfl
  have hkey : Keys Try.prog 97 pairV := keys_pair
  generalize hW : ((w.alloc (.cells #[.bool false] 4)).alloc (.map #[] 0)).alloc (.cells #[.map (some (w.heap.size + 1))] 113) = W
  have F2 : W.heap[w.heap.size]? = some (.cells #[.bool false] 4 (0, 0)) := by rw [← hW]; exact blk_alloc (blk_alloc (heap_alloc_new _ _) _) _
  have FM : SetIs pairV W (w.heap.size + 1) (told vals 0) := ⟨#[], 0, by rw [← hW]; exact blk_alloc (by simpa using heap_alloc_new (w.alloc (.cells #[.bool false] 4)) (.map #[] 0)) _, rfl, by simp⟩
  have F3 : W.heap[w.heap.size + 1 + 1]? = some (.cells #[.map (some (w.heap.size + 1))] 113 (0, 0)) := by rw [← hW]; simpa using heap_alloc_new ((w.alloc (.cells #[.bool false] 4)).alloc (.map #[] 0)) (.cells #[.map (some (w.heap.size + 1))] 113)
  have FB : Below w.heap.size w W := by rw [← hW]; exact below_alloc (below_alloc (below_alloc (Below.refl _ _) _) _) _
  clear hW
  have hml : w.heap.size + 1 < W.heap.size := FM.lt
  refine wpIn_wide.1 (XB.wpIn_rangeFunc_box (n := 9) rfl (by omega) (gf := gf) (lb := lb) rfl trivial eg hseq (OwnW.below (Nat.le_refl _) FB.size) FB (fun A B h => keeps_below h) (fun {A B C} h k => below_trans h k) (fun W_ l o o' hl ho _ => below_put o' (Nat.le_trans FB.size hl) (blk_lt ho)) (fun _ => rfl)
    (fun k W' => (told vals k).Nodup ∧ SetIs pairV W' (w.heap.size + 1) (told vals k) ∧ W'.heap[w.heap.size]? = some (.cells #[.bool false] 4 (0, 0)) ∧ W'.heap[w.heap.size + 1 + 1]? = some (.cells #[.map (some (w.heap.size + 1))] 113 (0, 0)) ∧ Below w.heap.size w W')
    (fun c k W' => c = .ret ∧ ¬ (told vals N).Nodup ∧ W'.heap[w.heap.size]? = some (.cells #[.bool true] 4 (0, 0)) ∧ Below w.heap.size w W')
    (fun k => .and (.pure _) (.and (OwnW.set _ hml _) (.and (.blk _ _ _ _) (.and (.blk _ _ _ _) (.below (Nat.le_refl _) FB.size)))))
    (fun c k => .and (.pure _) (.and (.pure _) (.and (.blk _ _ _ _) (.below (Nat.le_refl _) FB.size))))
    (fun k A B h hT => ⟨h.1, h.2.1.same (hT.block _ h.2.1.lt), blk_same h.2.2.1 hT, blk_same h.2.2.2.1 hT, below_step h.2.2.2.2 hT⟩)
    (fun c k A B h hT => ⟨h.1, h.2.1, blk_same h.2.2.1 hT, below_step h.2.2.2 hT⟩)
    ⟨List.nodup_nil, FM, F2, F3, FB⟩ ?a1
    (fun k g W' => ((told vals k).Nodup ∧ SetIs pairV W' (w.heap.size + 1) (told vals k) ∧ W'.heap[w.heap.size]? = some (.cells #[.bool false] 4 (0, 0)) ∧ W'.heap[w.heap.size + 1 + 1]? = some (.cells #[.map (some (w.heap.size + 1))] 113 (0, 0)) ∧ Below w.heap.size w W') ∧ W'.heap[g]? = some (.cells #[.string (vals k).1, .string (vals k).2] 97 (0, 0)))
    (fun k g => .and (.and (.pure _) (.and (OwnW.set _ hml _) (.and (.blk _ _ _ _) (.and (.blk _ _ _ _) (.below (Nat.le_refl _) FB.size))))) (.blk _ _ _ _)) ?assign ?body ?done ?stop)
  case assign =>
    rintro l k W1 K ⟨hd, hS, G2, G3, GB⟩ hk hK
    obtain ⟨g, hg⟩ : ∃ g, W1.heap.size = g := ⟨_, rfl⟩
    have hJ := hK g (W1.alloc (.cells #[.string (vals k).1, .string (vals k).2] 97)) ⟨⟨hd, hS.same ((Below.alloc (Below.refl W1.heap.size W1) (Nat.le_refl _) _).block _ hS.lt), blk_alloc G2 _, blk_alloc G3 _, below_alloc GB _⟩, by rw [← hg]; exact heap_alloc_new _ _⟩ (XB.keeps_alloc (KeepsFrom.refl _ _) _) (Below.alloc (Below.refl _ _) GB.size _)
    simp only [pairV]
    gi_wp2
    exact hJ
  case body =>
    rintro l k g W' ⟨⟨hd, hS, G2, G3, GB⟩, GP⟩ hk
    have cp0 := (blk_cell GP 0).trans rfl
    have cp1 := (blk_cell GP 1).trans rfl
    have c3 := (blk_cell G3 0).trans rfl
    gi_wp2_with fail
    have hlook := hS.look hkey Try.underlying113 (hz W') (vals k)
    by_cases hm : vals k ∈ told vals k
    · simp only [hm, decide_true] at hlook
      simp only [pairV] at hlook
      rw [hlook]
      simp only [Result.andThen_ok]
      have hk' := Lib.hid (told_dup hm N (by omega))
      have HG2 := Lib.hid G2
      have HGB := Lib.hid GB
      have c2 : ∀ o, (W'.alloc o).cell? ⟨w.heap.size, 0, none⟩ = some (.bool false) := fun o => (blk_cell (blk_alloc G2 o) 0).trans rfl
      have d2 : ∀ o, (W'.alloc o).frozen? ⟨w.heap.size, 0, none⟩ = false := fun o => blk_frozen (blk_alloc G2 o) 0
      clear hd hS G2 G3 GB hlook hm
      gi_wp2
      refine ⟨?_, rfl, hk'.out, ?_, ?_⟩
      · (repeat (first | with_reducible exact ((KeepsFrom.refl W.heap.size W')) | with_reducible refine XB.keeps_drew ?_ | with_reducible refine XB.keeps_alloc ?_ _ | with_reducible refine XB.keeps_set ?_ _ _))
      · (repeat (first | with_reducible exact (HG2.out) | with_reducible refine XB.blk_drew ?_ | with_reducible refine blk_alloc ?_ _ | with_reducible refine blk_far ?_ (by first | assumption | (refine Ne.symm ?_; assumption)) _ | with_reducible apply XB.put10 | with_reducible apply XB.put20 | with_reducible apply XB.put21 | with_reducible apply XB.put30 | with_reducible apply XB.put31 | with_reducible apply XB.put32 | with_reducible apply XB.put40 | with_reducible apply XB.put41 | with_reducible apply XB.put42 | with_reducible apply XB.put43))
      · have hle := Nat.le_refl w.heap.size
        (repeat (first | with_reducible exact (HGB.out) | with_reducible refine below_drew ?_ | with_reducible refine below_alloc ?_ _ | with_reducible refine below_set ?_ (by first | assumption | exact Aside0.out (by assumption))))
    · simp only [hm, decide_false] at hlook
      simp only [pairV] at hlook
      rw [hlook]
      simp only [Result.andThen_ok]
      have cp0' : ∀ o, (W'.alloc o).cell? ⟨g, 0, none⟩ = some (.string (vals k).1) := fun o => (blk_cell (blk_alloc GP o) 0).trans rfl
      have cp1' : ∀ o, (W'.alloc o).cell? ⟨g, 1, none⟩ = some (.string (vals k).2) := fun o => (blk_cell (blk_alloc GP o) 1).trans rfl
      have c3' : ∀ o, (W'.alloc o).cell? ⟨w.heap.size + 1 + 1, 0, none⟩ = some (.map (some (w.heap.size + 1))) := fun o => (blk_cell (blk_alloc G3 o) 0).trans rfl
      have hput : ∀ o, ∃ o' : Obj, (Instr.mapUpdate 113 (.map (some (w.heap.size + 1))) (pairV (vals k)) (.agg #[])).run Try.prog (W'.alloc o) = .ok () ((W'.alloc o).putObj (w.heap.size + 1) o') ∧ o'.isCells = false ∧ SetIs pairV ((W'.alloc o).putObj (w.heap.size + 1) o') (w.heap.size + 1) (told vals k ++ [vals k]) :=
        fun o => (hS.same ((Below.alloc (Below.refl W'.heap.size W') (Nat.le_refl _) o).block _ hS.lt)).put hkey Try.underlying113 (vals k) hm
      have HL := Lib.hid hS.lt
      have HG2 := Lib.hid G2; have HG3 := Lib.hid G3; have HGB := Lib.hid GB; have HD := Lib.hid (told_nodup hd hm); have HP := Lib.hid hput
      clear hd hS G2 G3 GB hlook hm hput
      gi_wp2
      obtain ⟨o', hrun, ho', hS'⟩ := HP.out (.cells #[] 110)
      simp only [pairV] at hrun
      rw [hrun]
      simp only [Result.andThen_ok]
      clear hrun
      have hlt := Lib.hid hml
      clear hml
      gi_wp2
      have hne2 : w.heap.size ≠ w.heap.size + 1 := by omega
      have hne3 : w.heap.size + 1 + 1 ≠ w.heap.size + 1 := by omega
      have HB2 := below_alloc HGB.out (.cells #[] 110)
      refine ⟨⟨?_, ?_⟩, ?_, HD.out, ?_, ?_, ?_, ?_⟩
      · rw [World.putObj_size, World.size_alloc]; omega
      · intro k_ o_ h1 h2 h3
        have := hlt.out
        rw [World.putObj_heap_other (by omega)]
        exact blk_alloc h2 _
      · exact below_trans (Below.alloc (Below.refl _ W') (by have := HGB.out.size; omega) _) (below_put o' (by omega) (by rw [World.size_alloc]; have := HL.out; omega))
      · rw [told_succ]; exact hS'
      · rw [World.putObj_heap_other hne2]; exact blk_alloc HG2.out _
      · rw [World.putObj_heap_other hne3]; exact blk_alloc HG3.out _
      · exact below_trans HB2 (below_put o' (by omega) (by rw [World.size_alloc]; have := HL.out; omega))
  case done =>
    rintro D W' hD ⟨hd, hS, G2, G3, GB⟩ hDD
    rename_i K_ hK_
    refine hK_ _ _ ?_
    clear hK_
    have c2 := (blk_cell G2 0).trans rfl
    have d2 := blk_frozen G2 0
    have hr : dup (told vals N) = false := by unfold dup; rw [decide_eq_true hd]; rfl
    go_wp2
    change XB.QM _ _ _ _ _ _ _
    have hlt : w.heap.size ≠ D := Nat.ne_of_lt (Nat.lt_of_lt_of_le (blk_lt F2) hD)
    have X2 : (W'.setCell ⟨w.heap.size, 0, none⟩ (.bool false)).heap[w.heap.size]? = some (.cells #[.bool false] 4 (0, 0)) := XB.put10 G2 _
    have XD : (W'.setCell ⟨w.heap.size, 0, none⟩ (.bool false)).heap[D]? = some (.deferred (some [])) := (keeps_set (KeepsFrom.refl W.heap.size W') _ _).same D _ hD hDD rfl
    have P2 := (XB.OwnW.blk (B := W.heap.size) _ _ _ _).putObj (.deferred none) X2 hD XD rfl
    refine XB.QM_ret (.inl rfl) XD (XB.resultsX_single rfl (.one _ _ _ _ _ rfl P2 rfl rfl .nil)) ?_
    exact ⟨by rw [hr], (XB.OwnW.below (Nat.le_refl _) FB.size).putObj _ (below_set GB (Nat.le_refl _)) hD XD rfl⟩
  case stop =>
    rintro D c k W' hD hk ⟨rfl, hn, G2, GB⟩ hDD
    have hr : dup (told vals N) = true := by unfold dup; rw [decide_eq_false hn]; rfl
    refine wpIn_wide.2 ?_
    go_wp2
    change XB.QM _ _ _ _ _ _ _
    have P2 := (XB.OwnW.blk (B := W.heap.size) _ _ _ _).putObj (.deferred none) G2 hD hDD rfl
    refine XB.QM_ret (.inl rfl) hDD (XB.resultsX_single rfl (.one _ _ _ _ _ rfl P2 rfl rfl .nil)) ?_
    exact ⟨by rw [hr], (XB.OwnW.below (Nat.le_refl _) FB.size).putObj _ GB hD hDD rfl⟩
end Go.Proofs.Ytmkncddbecmlpaa.Pr
end
section
namespace Go.Proofs.Ytmkncddbecmlpaa.Pr
open Go.RowKit Go.Shelf Go.Proofs.Ytmkncddbecmlpaa.XB Go.Proofs.YtmkncddbecmlpaaW.PrintWords
attribute [local go_sem] Oper.semAt_some
set_option linter.unusedVariables false
set_option maxHeartbeats 1000000 in
theorem names_calls (fo : Nat) (s : ByteArray) (i : Int) (v2 v3 : Value) (bo : Bool) (w : World) (o2 : v2.oneCell' = true) (o3 : v3.oneCell' = true) :
    Calls Try.prog 60 #[.agg #[.string s, .int .i64 i, v2, v3, .bool bo], .func (.func fo) #[] #[]] w fun e w' => e = .returned (.func (.func 75) #[] #[.pointer (some ⟨w.heap.size, 0, none⟩), .pointer (some ⟨w.heap.size + 1, 0, none⟩)]) ∧
      w' = (w.alloc (.cells #[.string s, .int .i64 i, v2, v3, .bool bo] 50)).alloc (.cells #[.func (.func fo) #[] #[]] 94) := by
  go_enter Try.func60, Try.ntmps60
  go_wp2
  go_ret
  exact ⟨rfl, rfl⟩
set_option maxHeartbeats 1000000 in
theorem cells_calls (fo : Nat) (s : ByteArray) (i : Int) (v2 v3 : Value) (bo : Bool) (w : World) (o2 : v2.oneCell' = true) (o3 : v3.oneCell' = true) :
    Calls Try.prog 63 #[.agg #[.string s, .int .i64 i, v2, v3, .bool bo], .func (.func fo) #[] #[]] w fun e w' => e = .returned (.func (.func 76) #[] #[.pointer (some ⟨w.heap.size, 0, none⟩), .pointer (some ⟨w.heap.size + 1, 0, none⟩)]) ∧
      w' = (w.alloc (.cells #[.string s, .int .i64 i, v2, v3, .bool bo] 50)).alloc (.cells #[.func (.func fo) #[] #[]] 101) := by
  go_enter Try.func63, Try.ntmps63
  go_wp2
  go_ret
  exact ⟨rfl, rfl⟩
theorem out_calls (x : S72) (w : World) : Calls Try.prog 72 #[.agg #[.string x.f0, .string x.f1]] w fun e w' => e = .returned (.string x.f1) ∧ Below w.heap.size w w' := by
  go_enter Try.func72, Try.ntmps72
  go_wp2
  go_ret
  exact ⟨rfl, below_alloc (Below.refl _ _) _⟩
theorem in_calls (x : S72) (w : World) : Calls Try.prog 61 #[.agg #[.string x.f0, .string x.f1]] w fun e w' => e = .returned (.string x.f0) ∧ Below w.heap.size w w' := by
  go_enter Try.func61, Try.ntmps61
  go_wp2
  go_ret
  exact ⟨rfl, below_alloc (Below.refl _ _) _⟩
set_option maxRecDepth 100000 in
theorem labelCell_calls (x : S74) (w : World) : Calls Try.prog 73 #[.agg #[.string x.f0, .string x.f1, .string x.f2]] w fun e w' => e = .returned (.agg #[.string x.f0, .string x.f2]) ∧ Below w.heap.size w w' := by
  go_enter Try.func73, Try.ntmps73
  go_wp2
  have hb : ∀ o1 o2 : Obj, ((w.alloc o1).alloc o2).heap[w.heap.size + 1]? = some o2 := fun o1 o2 => by simpa using heap_alloc_new (w.alloc o1) o2
  refine bodyPost_ret (XB.resultsX_single rfl (.cell (w.heap.size + 1) 97 #[.string x.f0, .string x.f2] (0, 0) _ rfl (hb _ _) Try.underlying97 rfl rfl .nil)) rfl ?_
  exact ⟨rfl, below_alloc (below_alloc (Below.refl _ _) _) _⟩
set_option maxRecDepth 100000 in
theorem labelText_calls (x : S74) (w : World) : Calls Try.prog 64 #[.agg #[.string x.f0, .string x.f1, .string x.f2]] w fun e w' => e = .returned (.agg #[.string x.f0, .string x.f1]) ∧ Below w.heap.size w w' := by
  go_enter Try.func64, Try.ntmps64
  go_wp2
  have hb : ∀ o1 o2 : Obj, ((w.alloc o1).alloc o2).heap[w.heap.size + 1]? = some o2 := fun o1 o2 => by simpa using heap_alloc_new (w.alloc o1) o2
  refine bodyPost_ret (XB.resultsX_single rfl (.cell (w.heap.size + 1) 97 #[.string x.f0, .string x.f1] (0, 0) _ rfl (hb _ _) Try.underlying97 rfl rfl .nil)) rfl ?_
  exact ⟨rfl, below_alloc (below_alloc (Below.refl _ _) _) _⟩
end Go.Proofs.Ytmkncddbecmlpaa.Pr
end
section
namespace Go.Proofs.Ytmkncddbecmlpaa.Pr
open Go.RowKit Go.Shelf Go.Proofs.Ytmkncddbecmlpaa.XB Go.Proofs.YtmkncddbecmlpaaW.PrintWords
attribute [local go_sem] Oper.semAt_some
set_option linter.unusedVariables false
theorem told_map {κ α : Type} (xs : List α) (d : α) (f : α → κ) (g : Nat → α) (hg : ∀ k, (h : k < xs.length) → g k = xs[k]) : told (fun k => f (g k)) xs.length = xs.map f := by
  refine List.ext_getElem (by simp [told]) ?_
  intro i h1 h2
  simp [told] at h1 ⊢
  rw [hg i h1]
def clashP (ns : List S72) (cs : List S74) : Bool := dup (ns.map fun n => n.f1) || dup (cs.map fun c => (c.f0, c.f2))
def ideal_clash.f (a0_0 : ByteArray) (a0_1 : Int) (l0_2 : List (S72)) (l0_3 : List (S74)) (a0_4 : Bool) : Option (Bool) := some (clashP l0_2 l0_3)
theorem told_names (xs : List S72) (f : S72 → ByteArray) : told (fun k => f (rd_T72 xs k)) xs.length = xs.map f :=
  told_map xs z72 f (fun k => rd_T72 xs k) (fun k h => by
    unfold rd_T72
    simp [h])
theorem told_cells (xs : List S74) (f : S74 → ByteArray × ByteArray) : told (fun k => f (rd_T74 xs k)) xs.length = xs.map f :=
  told_map xs z74 f (fun k => rd_T74 xs k) (fun k h => by
    unfold rd_T74
    simp [h])
set_option maxRecDepth 100000 in
set_option maxHeartbeats 4000000 in
theorem ideal_clash.calls (a0_0 : ByteArray) (a0_1 : Int) (A0_2 : Option Addr) (c0_2 : Nat) (l0_2 : List (S72)) (A0_3 : Option Addr) (c0_3 : Nat) (l0_3 : List (S74)) (a0_4 : Bool) (r : Bool) (w : World) (hr0_2 : Kd.C k72 w A0_2 l0_2.length l0_2) (hc0_2 : l0_2.length ≤ c0_2) (hr0_3 : Kd.C k74 w A0_3 l0_3.length l0_3) (hc0_3 : l0_3.length ≤ c0_3) (h : ideal_clash.f a0_0 a0_1 l0_2 l0_3 a0_4 = some r) :
    Calls Try.prog 52 #[.agg #[.string a0_0, .int .i64 a0_1, .slice A0_2 l0_2.length c0_2, .slice A0_3 l0_3.length c0_3, .bool a0_4]] w fun e w' => e = .returned (.bool r) ∧ Below w.heap.size w w' := by
  cases h
  go_enter Try.func52, Try.ntmps52
  have e75 : ∀ args w, (callFunc 75 args).run Try.prog w = .ok (.enter 75 args) w := enters_of Try.func75 (by kernel_rfl) rfl
  have e76 : ∀ args w, (callFunc 76 args).run Try.prog w = .ok (.enter 76 args) w := enters_of Try.func76 (by kernel_rfl) rfl
  have e72 : ∀ args w, (callFunc 72 args).run Try.prog w = .ok (.enter 72 args) w := enters_of Try.func72 (by kernel_rfl) rfl
  have e73 : ∀ args w, (callFunc 73 args).run Try.prog w = .ok (.enter 73 args) w := enters_of Try.func73 (by kernel_rfl) rfl
  go_wp2_with fail
  refine (names_calls 72 a0_0 a0_1 _ _ a0_4 _ rfl rfl).mono ?_
  rintro e W1 ⟨rfl, hW1⟩
  generalize hU : w.alloc _ = U at hW1
  have HU : Below w.heap.size w U := by rw [← hU]; exact below_alloc (Below.refl _ _) _
  have HU0 : U.heap[w.heap.size]? = some (.cells #[.string a0_0, .int .i64 a0_1, .slice A0_2 l0_2.length c0_2, .slice A0_3 l0_3.length c0_3, .bool a0_4] 50 (0, 0)) := by rw [← hU]; exact heap_alloc_new _ _
  have HW : Below w.heap.size w W1 := by rw [hW1]; exact below_alloc (below_alloc HU _) _
  have B1 : W1.heap[U.heap.size]? = some (.cells #[.string a0_0, .int .i64 a0_1, .slice A0_2 l0_2.length c0_2, .slice A0_3 l0_3.length c0_3, .bool a0_4] 50 (0, 0)) := by rw [hW1]; exact blk_alloc (heap_alloc_new _ _) _
  have B2 : W1.heap[U.heap.size + 1]? = some (.cells #[.func (.func 72) #[] #[]] 94 (0, 0)) := by rw [hW1]; simpa using heap_alloc_new (U.alloc (.cells #[.string a0_0, .int .i64 a0_1, .slice A0_2 l0_2.length c0_2, .slice A0_3 l0_3.length c0_3, .bool a0_4] 50)) (.cells #[.func (.func 72) #[] #[]] 94)
  have B0 : W1.heap[w.heap.size]? = some (.cells #[.string a0_0, .int .i64 a0_1, .slice A0_2 l0_2.length c0_2, .slice A0_3 l0_3.length c0_3, .bool a0_4] 50 (0, 0)) := by rw [hW1]; exact blk_alloc (blk_alloc HU0 _) _
  clear hW1 hU
  have hr2 : Kd.C k72 W1 A0_2 l0_2.length l0_2 := Kd.C_below hr0_2 HW
  have hr3 : Kd.C k74 W1 A0_3 l0_3.length l0_3 := Kd.C_below hr0_3 HW
  have hl2 := Kd.C_max hr0_2
  have hl3 := Kd.C_max hr0_3
  have seq2 := names1_seq 8 (by omega) W1 U.heap.size (U.heap.size + 1) 72 a0_0 a0_1 A0_2 c0_2 (.slice A0_3 l0_3.length c0_3) a0_4 l0_2 (fun n => n.f1) B1 B2 hr2 hc0_2 hl2 out_calls e72
  go_wp2_with fail
  refine (twice9_calls 75 _ _ _ W1 e75 seq2).mono ?_
  rintro e W2 ⟨rfl, hb2⟩
  rw [told_names]
  have HW2 : Below w.heap.size w W2 := below_step HW hb2
  have C0 : W2.heap[w.heap.size]? = some (.cells #[.string a0_0, .int .i64 a0_1, .slice A0_2 l0_2.length c0_2, .slice A0_3 l0_3.length c0_3, .bool a0_4] 50 (0, 0)) := blk_same B0 hb2
  have hr3' := Kd.C_below hr3 hb2
  clear seq2 B1 B2 B0 HU0 HU HW hr2 hr3 hb2 e75 e72 hr0_2 hr0_3
  cases hd : dup (List.map (fun n => n.f1) l0_2)
  · have c0 := (blk_cell C0 0).trans rfl
    have c1 := (blk_cell C0 1).trans rfl
    have c2 := (blk_cell C0 2).trans rfl
    have c3 := (blk_cell C0 3).trans rfl
    have c4 := (blk_cell C0 4).trans rfl
    go_wp2_with fail
    refine (cells_calls 73 a0_0 a0_1 _ _ a0_4 _ rfl rfl).mono ?_
    rintro e W3 ⟨rfl, hW3⟩
    have HW3 : Below w.heap.size w W3 := by rw [hW3]; exact below_alloc (below_alloc HW2 _) _
    have D1 : W3.heap[W2.heap.size]? = some (.cells #[.string a0_0, .int .i64 a0_1, .slice A0_2 l0_2.length c0_2, .slice A0_3 l0_3.length c0_3, .bool a0_4] 50 (0, 0)) := by rw [hW3]; exact blk_alloc (heap_alloc_new _ _) _
    have D2 : W3.heap[W2.heap.size + 1]? = some (.cells #[.func (.func 73) #[] #[]] 101 (0, 0)) := by rw [hW3]; simpa using heap_alloc_new (W2.alloc (.cells #[.string a0_0, .int .i64 a0_1, .slice A0_2 l0_2.length c0_2, .slice A0_3 l0_3.length c0_3, .bool a0_4] 50)) (.cells #[.func (.func 73) #[] #[]] 101)
    have hr4 : Kd.C k74 W3 A0_3 l0_3.length l0_3 := by rw [hW3]; exact Kd.C_alloc (Kd.C_alloc hr3' _) _
    clear hW3
    have seq3 := cells1_seq 8 (by omega) W3 W2.heap.size (W2.heap.size + 1) 73 a0_0 a0_1 (.slice A0_2 l0_2.length c0_2) A0_3 c0_3 a0_4 l0_3 (fun c => (c.f0, c.f2)) D1 D2 hr4 hc0_3 hl3 labelCell_calls e73
    go_wp2_with fail
    refine (twice97_calls 76 _ (fun k => ((rd_T74 l0_3 k).f0, (rd_T74 l0_3 k).f2)) l0_3.length W3 e76 seq3).mono ?_
    rintro e W4 ⟨rfl, hb4⟩
    rw [show told (fun k : Nat => ((rd_T74 l0_3 k).f0, (rd_T74 l0_3 k).f2)) l0_3.length = _ from told_cells l0_3 (fun c => (c.f0, c.f2))]
    go_wp2
    go_ret
    exact ⟨by simp [clashP, hd], below_step HW3 hb4⟩
  · go_wp2
    go_ret
    exact ⟨by simp [clashP, hd], HW2⟩
end Go.Proofs.Ytmkncddbecmlpaa.Pr
end
section
namespace Go.Proofs.Ytmkncddbecmlpaa.Pr
open Go.RowKit Go.Shelf Go.Proofs.Ytmkncddbecmlpaa.XB Go.Proofs.YtmkncddbecmlpaaW.PrintWords Go.Proofs.YtmkncddbecmlpaaW.PrintLast Go.Proofs.YtmkncddbecmlpaaW.PrintMore
attribute [local go_sem] Oper.semAt_some
set_option linter.unusedVariables false
def tapeP (b : ByteArray) (a : Int) : Bool := decide ((b.size : Int) ≤ 65536) && decide (a ≥ 0) && decide (a ≤ (b.size : Int))
theorem tapeP_f (b : ByteArray) (a : Int) : tape_Right.f b a = some (tapeP b a) := by
  unfold tape_Right.f tapeP
  by_cases h1 : (b.size : Int) ≤ 65536 <;> by_cases h2 : a ≥ 0 <;> simp [h1, h2]
theorem two_alloc {U W1 : World} {o1 o2 : Obj} (h : W1 = (U.alloc o1).alloc o2) : Below U.heap.size U W1 ∧ W1.heap[U.heap.size]? = some o1 ∧ W1.heap[U.heap.size + 1]? = some o2 := by
  subst h
  exact ⟨below_alloc (below_alloc (Below.refl _ _) _) _, blk_alloc (heap_alloc_new _ _) _, by simpa using heap_alloc_new (U.alloc o1) o2⟩
def rightP (b : ByteArray) (a : Int) (ns : List S72) (cs : List S74) (cl : Bool) : Bool :=
  tapeP b a && decide (ns.length ≤ 2000 ∧ cs.length ≤ 2000) && !(ns.any oddName) && !(cs.any oddCell) && !(dup (ns.map fun n => n.f0)) && !(dup (cs.map fun c => (c.f0, c.f1))) && (cl == clashP ns cs)
def ideal_Right.f (a0_0 : ByteArray) (a0_1 : Int) (l0_2 : List (S72)) (l0_3 : List (S74)) (a0_4 : Bool) : Option (Bool) := some (rightP a0_0 a0_1 l0_2 l0_3 a0_4)
set_option maxRecDepth 100000 in
set_option maxHeartbeats 8000000 in
theorem ideal_Right.calls (a0_0 : ByteArray) (a0_1 : Int) (A0_2 : Option Addr) (c0_2 : Nat) (l0_2 : List (S72)) (A0_3 : Option Addr) (c0_3 : Nat) (l0_3 : List (S74)) (a0_4 : Bool) (r : Bool) (w : World) (hr0_2 : Kd.C k72 w A0_2 l0_2.length l0_2) (hc0_2 : l0_2.length ≤ c0_2) (hr0_3 : Kd.C k74 w A0_3 l0_3.length l0_3) (hc0_3 : l0_3.length ≤ c0_3) (h : ideal_Right.f a0_0 a0_1 l0_2 l0_3 a0_4 = some r) :
    Calls Try.prog 37 #[.agg #[.string a0_0, .int .i64 a0_1, .slice A0_2 l0_2.length c0_2, .slice A0_3 l0_3.length c0_3, .bool a0_4]] w fun e w' => e = .returned (.bool r) ∧ Below w.heap.size w w' := by
  cases h
  have e55 : ∀ args w, (callFunc 55 args).run Try.prog w = .ok (.enter 55 args) w := enters_of Try.func55 (by kernel_rfl) rfl
  have e56 : ∀ args w, (callFunc 56 args).run Try.prog w = .ok (.enter 56 args) w := enters_of Try.func56 (by kernel_rfl) rfl
  have e75 : ∀ args w, (callFunc 75 args).run Try.prog w = .ok (.enter 75 args) w := enters_of Try.func75 (by kernel_rfl) rfl
  have e76 : ∀ args w, (callFunc 76 args).run Try.prog w = .ok (.enter 76 args) w := enters_of Try.func76 (by kernel_rfl) rfl
  have e61 : ∀ args w, (callFunc 61 args).run Try.prog w = .ok (.enter 61 args) w := enters_of Try.func61 (by kernel_rfl) rfl
  have e64 : ∀ args w, (callFunc 64 args).run Try.prog w = .ok (.enter 64 args) w := enters_of Try.func64 (by kernel_rfl) rfl
  have hl2 := Kd.C_max hr0_2
  have hl3 := Kd.C_max hr0_3
  generalize hP : rightP a0_0 a0_1 l0_2 l0_3 a0_4 = R
  unfold rightP at hP
  go_enter Try.func37, Try.ntmps37
  go_wp2_with fail
  generalize hU : w.alloc _ = W1
  have HW1 : Below w.heap.size w W1 := by rw [← hU]; exact below_alloc (Below.refl _ _) _
  have C1 : W1.heap[w.heap.size]? = some (.cells #[.string a0_0, .int .i64 a0_1, .slice A0_2 l0_2.length c0_2, .slice A0_3 l0_3.length c0_3, .bool a0_4] 50 (0, 0)) := by rw [← hU]; exact heap_alloc_new _ _
  clear hU
  refine (tape_Right.calls a0_0 a0_1 _ W1 (tapeP_f a0_0 a0_1)).mono ?_
  rintro e W2 ⟨rfl, hb⟩
  have HW2 : Below w.heap.size w W2 := below_step HW1 hb
  have C2 := blk_same C1 hb
  clear hb C1 HW1
  cases h1 : tapeP a0_0 a0_1
  · rw [h1] at hP
    simp only [Bool.false_and] at hP
    subst hP
    clear e55 e56 e75 e76 e61 e64
    go_wp2
    go_ret
    exact ⟨rfl, HW2⟩
  rw [h1] at hP
  have c0 := (blk_cell C2 0).trans rfl
  have c1 := (blk_cell C2 1).trans rfl
  have c2 := (blk_cell C2 2).trans rfl
  have c3 := (blk_cell C2 3).trans rfl
  have c4 := (blk_cell C2 4).trans rfl
  by_cases h2 : l0_2.length ≤ 2000 ∧ l0_3.length ≤ 2000
  case neg =>
    simp only [h2, decide_false, Bool.and_false, Bool.false_and] at hP
    subst hP
    clear e55 e56 e75 e76 e61 e64
    have h2' : ¬ (max (l0_2.length : Int) (l0_3.length : Int) ≤ 2000) := by omega
    have h2'' : (max (l0_2.length : Int) (l0_3.length : Int) > 2000) := by omega
    go_wp2 <;> (go_ret; exact ⟨rfl, HW2⟩)
  simp only [h2, decide_true, and_self, Bool.true_and] at hP
  have hr2 := Kd.C_below hr0_2 HW2
  have hr3 := Kd.C_below hr0_3 HW2
  have h21 : (l0_2.length : Int) ≤ 2000 := by omega
  have h22 : (l0_3.length : Int) ≤ 2000 := by omega
  have HP := Lib.hid hP
  clear hP
  (go_wp2_with fail) <;> (
    refine (contains57_calls 55 #[] oddName A0_2 c0_2 l0_2 W2 hr2 hc0_2 hl2 e55 (fun x W _ => oddName_calls x W)).mono ?_
    rintro e W3 ⟨rfl, hb⟩
    have HW3 : Below w.heap.size w W3 := below_step HW2 hb
    have C3 := blk_same C2 hb
    have hr3' := Kd.C_below hr3 hb
    clear hb
    cases h3 : l0_2.any oddName
    case true =>
      have hP := HP.out
      simp only [h3, Bool.not_true, Bool.false_and] at hP
      subst hP
      clear e55 e56 e75 e76 e61 e64
      go_wp2
      go_ret
      exact ⟨rfl, HW3⟩
    have d3 := (blk_cell C3 3).trans rfl
    go_wp2_with fail
    refine (contains58_calls 56 #[] oddCell A0_3 c0_3 l0_3 W3 hr3' hc0_3 hl3 e56 (fun x W _ => oddCell_calls x W)).mono ?_
    rintro e W4 ⟨rfl, hb⟩
    have HW4 : Below w.heap.size w W4 := below_step HW3 hb
    have C4 := blk_same C3 hb
    clear hb
    cases h4 : l0_3.any oddCell
    case true =>
      have hP := HP.out
      simp only [h3, h4, Bool.not_true, Bool.not_false, Bool.false_and, Bool.true_and] at hP
      subst hP
      clear e55 e56 e75 e76 e61 e64
      go_wp2
      go_ret
      exact ⟨rfl, HW4⟩
    have hr2'' := Kd.C_below hr0_2 HW4
    have hr3'' := Kd.C_below hr0_3 HW4
    have f0 := (blk_cell C4 0).trans rfl
    have f1 := (blk_cell C4 1).trans rfl
    have f2 := (blk_cell C4 2).trans rfl
    have f3 := (blk_cell C4 3).trans rfl
    have f4 := (blk_cell C4 4).trans rfl
    go_wp2_with fail
    refine (names_calls 61 a0_0 a0_1 _ _ a0_4 W4 rfl rfl).mono ?_
    rintro e W5 ⟨rfl, hW5⟩
    obtain ⟨hb, B1, B2⟩ := two_alloc hW5
    have HW5 : Below w.heap.size w W5 := below_step HW4 hb
    have seq2 := names1_seq 8 (by omega) W5 W4.heap.size (W4.heap.size + 1) 61 a0_0 a0_1 A0_2 c0_2 (.slice A0_3 l0_3.length c0_3) a0_4 l0_2 (fun n => n.f0) B1 B2 (Kd.C_below hr2'' hb) hc0_2 hl2 in_calls e61
    have C5 := blk_same C4 hb
    clear hW5 hb B1 B2
    go_wp2_with fail
    refine (twice9_calls 75 _ (fun k => (rd_T72 l0_2 k).f0) l0_2.length W5 e75 seq2).mono ?_
    rintro e W6 ⟨rfl, hb⟩
    rw [show told (fun k : Nat => (rd_T72 l0_2 k).f0) l0_2.length = _ from told_names l0_2 (fun n => n.f0)]
    have HW6 : Below w.heap.size w W6 := below_step HW5 hb
    have C6 := blk_same C5 hb
    clear hb seq2 f0 f1 f2 f3 f4
    cases h5 : dup (l0_2.map fun n => n.f0)
    case true =>
      have hP := HP.out
      simp only [h3, h4, h5, Bool.not_true, Bool.not_false, Bool.false_and, Bool.true_and] at hP
      subst hP
      clear e55 e56 e75 e76 e61 e64
      go_wp2
      go_ret
      exact ⟨rfl, HW6⟩
    have f0 := (blk_cell C6 0).trans rfl
    have f1 := (blk_cell C6 1).trans rfl
    have f2 := (blk_cell C6 2).trans rfl
    have f3 := (blk_cell C6 3).trans rfl
    have f4 := (blk_cell C6 4).trans rfl
    go_wp2_with fail
    refine (cells_calls 64 a0_0 a0_1 _ _ a0_4 W6 rfl rfl).mono ?_
    rintro e W7 ⟨rfl, hW7⟩
    obtain ⟨hb, B1, B2⟩ := two_alloc hW7
    have HW7 : Below w.heap.size w W7 := below_step HW6 hb
    have seq3 := cells1_seq 8 (by omega) W7 W6.heap.size (W6.heap.size + 1) 64 a0_0 a0_1 (.slice A0_2 l0_2.length c0_2) A0_3 c0_3 a0_4 l0_3 (fun c => (c.f0, c.f1)) B1 B2 (Kd.C_below hr0_3 HW7) hc0_3 hl3 labelText_calls e64
    have C7 := blk_same C6 hb
    clear hW7 hb B1 B2
    go_wp2_with fail
    refine (twice97_calls 76 _ (fun k => ((rd_T74 l0_3 k).f0, (rd_T74 l0_3 k).f1)) l0_3.length W7 e76 seq3).mono ?_
    rintro e W8 ⟨rfl, hb⟩
    rw [show told (fun k : Nat => ((rd_T74 l0_3 k).f0, (rd_T74 l0_3 k).f1)) l0_3.length = _ from told_cells l0_3 (fun c => (c.f0, c.f1))]
    have HW8 : Below w.heap.size w W8 := below_step HW7 hb
    have C8 := blk_same C7 hb
    clear hb seq3 f0 f1 f2 f3 f4
    cases h6 : dup (l0_3.map fun c => (c.f0, c.f1))
    case true =>
      have hP := HP.out
      simp only [h3, h4, h5, h6, Bool.not_true, Bool.not_false, Bool.false_and, Bool.true_and] at hP
      subst hP
      clear e55 e56 e75 e76 e61 e64
      go_wp2
      go_ret
      exact ⟨rfl, HW8⟩
    clear e55 e56 e75 e76 e61 e64
    go_wp2_with fail
    refine start_ (n := 6) (S := fun w' => w'.cell? ⟨w.heap.size, 0, none⟩ = some (.string a0_0) ∧ w'.cell? ⟨w.heap.size, 1, none⟩ = some (.int .i64 a0_1) ∧ w'.cell? ⟨w.heap.size, 2, none⟩ = some (.slice A0_2 l0_2.length c0_2) ∧ w'.cell? ⟨w.heap.size, 3, none⟩ = some (.slice A0_3 l0_3.length c0_3) ∧ w'.cell? ⟨w.heap.size, 4, none⟩ = some (.bool a0_4)) (ds := []) #[false, false, false, false, false, false] (by kernel_rfl) rfl rfl ⟨(blk_cell C8 0).trans rfl, (blk_cell C8 1).trans rfl, (blk_cell C8 2).trans rfl, (blk_cell C8 3).trans rfl, (blk_cell C8 4).trans rfl⟩ (fun hHeld => ?_)
    have C9 := XB.blk_drew C8
    have HW9 := below_drew1 HW8
    clear C8
    generalize W8.drew = W9 at C9 HW9 hHeld ⊢
    refine pure_ (i := 0) (N := some 33) (v := ?_) (a' := ?_) #[true, false, false, false, false, false] rfl rfl (by kernel_rfl) (fun _ _ _ h => h) (Or.inl ⟨by rfl, ?_⟩) ?_ ?_
    rotate_left
    · intro w'
      go_simp
      with_reducible rfl
    rotate_left
    · simp only [Act.put, List.setIfInBounds_toArray, List.set_cons_zero, List.set_cons_succ]
      rfl
    refine take_ (i := 1) (N := some 34) (v := ?_) (a' := ?_) #[true, true, false, false, false, false] rfl rfl (by kernel_rfl) (fun _ _ _ h => h) (Or.inl ⟨by rfl, ?_⟩) hHeld ?_ ?_
    rotate_left
    · rintro w' ⟨s0, s1, s2, s3, s4⟩
      go_simp
      with_reducible rfl
    rotate_left
    · simp only [Act.put, List.setIfInBounds_toArray, List.set_cons_zero, List.set_cons_succ]
      rfl
    refine take_ (i := 2) (N := some 35) (v := ?_) (a' := ?_) #[true, true, true, false, false, false] rfl rfl (by kernel_rfl) (fun _ _ _ h => h) (Or.inl ⟨by rfl, ?_⟩) hHeld ?_ ?_
    rotate_left
    · rintro w' ⟨s0, s1, s2, s3, s4⟩
      go_simp
      with_reducible rfl
    rotate_left
    · simp only [Act.put, List.setIfInBounds_toArray, List.set_cons_zero, List.set_cons_succ]
      rfl
    refine one_ (i := 3) (N := some 36) #[true, true, true, true, false, false] rfl rfl (by kernel_rfl) (by decide) (fun K hK => ?_)
    refine goes_ Try.func52 (by kernel_rfl) rfl #[.agg #[.string a0_0, .int .i64 a0_1, .slice A0_2 l0_2.length c0_2, .slice A0_3 l0_3.length c0_3, .bool a0_4]] (by rfl) rfl rfl (by (try simp only [List.map_toArray, List.map_cons, List.map_nil]); rfl) ?_
    refine (ideal_clash.calls a0_0 a0_1 A0_2 c0_2 l0_2 A0_3 c0_3 l0_3 a0_4 _ W9 (Kd.C_below hr0_2 HW9) hc0_2 (Kd.C_below hr0_3 HW9) hc0_3 rfl).mono ?_
    rintro e W10 ⟨rfl, hb⟩
    refine ⟨_, rfl, ?_⟩
    have HW10 : Below w.heap.size w W10 := below_step HW9 hb
    have C10 := blk_same C9 hb
    refine hK.out _ _ ⟨(blk_cell C10 0).trans rfl, (blk_cell C10 1).trans rfl, (blk_cell C10 2).trans rfl, (blk_cell C10 3).trans rfl, (blk_cell C10 4).trans rfl⟩ (fun hHeld => ?_)
    clear hK K
    refine norm_ (a' := ?_) ?_ ?_
    rotate_left
    · show Act.put _ (some 36) _ = _
      simp only [Act.put, List.setIfInBounds_toArray, List.set_cons_zero, List.set_cons_succ]
      rfl
    refine pure_ (i := 4) (N := some 37) (v := ?_) (a' := ?_) #[true, true, true, true, true, false] rfl rfl (by kernel_rfl) (fun _ _ _ h => h) (Or.inl ⟨by rfl, ?_⟩) ?_ ?_
    rotate_left
    · intro w'
      go_simp
      with_reducible rfl
    rotate_left
    · simp only [Act.put, List.setIfInBounds_toArray, List.set_cons_zero, List.set_cons_succ]
      rfl
    refine pure_ (i := 5) (N := some 2) (v := ?_) (a' := ?_) #[true, true, true, true, true, true] rfl rfl (by kernel_rfl) (fun _ _ _ h => h) (Or.inl ⟨by rfl, ?_⟩) ?_ ?_
    rotate_left
    · intro w'
      go_simp
      with_reducible rfl
    rotate_left
    · simp only [Act.put, List.setIfInBounds_toArray, List.set_cons_zero, List.set_cons_succ]
      rfl
    refine done_ (by kernel_rfl) ?_
    have hP := HP.out
    simp only [h3, h4, h5, h6, Bool.not_true, Bool.not_false, Bool.false_and, Bool.true_and] at hP
    subst hP
    go_wp2
    go_ret
    exact ⟨rfl, HW10⟩)
end Go.Proofs.Ytmkncddbecmlpaa.Pr
end
