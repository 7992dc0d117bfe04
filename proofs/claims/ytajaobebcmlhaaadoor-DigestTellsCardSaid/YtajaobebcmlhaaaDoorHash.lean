/-
  Sums on their way: what they are, whether one may be, a new one; the iterator over a text's blocks. No condition but the ones that each lemma names.
-/
import Derived.Test.YtajaobebcmlhaaaDoorRefComp
namespace Go.Proofs.YtajaobebcmlhaaaDoor.Pr
open Go.RowKit Go.Shelf Go.Proofs.YtajaobebcmlhaaaDoor.XB Go.Proofs.Sha Go.Proofs.YtajaobebcmlhaaaDoorW.PrintWords
attribute [local go_sem] Oper.semAt_some
set_option linter.unusedVariables false
/-- A sum on its way. -/
structure Hs where
  H : S8
  rest : ByteArray
  many : Int
def hsc (x : Hs) : Array Value := #[.int .u32 (u x.H.a), .int .u32 (u x.H.b), .int .u32 (u x.H.c), .int .u32 (u x.H.d), .int .u32 (u x.H.e), .int .u32 (u x.H.f), .int .u32 (u x.H.g), .int .u32 (u x.H.h), .string x.rest, .int .i64 x.many]
def zeroH : Hs := ⟨zero8, ByteArray.empty, 0⟩
def newH : Hs := ⟨start8, ByteArray.empty, 0⟩
/-- May one be? -/
def rightH (x : Hs) : Bool := decide (0 ≤ x.many) && decide (x.many ≤ 1048576) && decide ((x.rest.size : Int) = x.many % 64)
set_option maxRecDepth 100000 in
theorem right_any (x : Hs) (w : World) :
    Calls Tryd.prog 25 #[.agg (hsc x)] w fun e w' => e = .returned (.bool (rightH x)) ∧ Below w.heap.size w w' := by
  obtain ⟨H, rest, many⟩ := x
  simp only [hsc, rightH]
  by_cases h0 : 0 ≤ many
  · by_cases h1 : many ≤ 1048576
    · by_cases h2 : (rest.size : Int) = many % 64
      · have e1 : ((rest.size : Int) == many % 64) = true := beq_iff_eq.2 h2
        have E : (decide (0 ≤ many) && decide (many ≤ 1048576) && decide ((rest.size : Int) = many % 64)) = true := by simp [h0, h1, h2]
        rw [E]
        clear h2 E
        go_enter Tryd.func25, Tryd.ntmps25
        go_wp2
        go_ret
        exact ⟨rfl, below_alloc (Below.refl _ _) _⟩
      · have e1 : ((rest.size : Int) == many % 64) = false := beq_eq_false_iff_ne.2 h2
        have E : (decide (0 ≤ many) && decide (many ≤ 1048576) && decide ((rest.size : Int) = many % 64)) = false := by simp [h0, h1, h2]
        rw [E]
        clear h2 E
        go_enter Tryd.func25, Tryd.ntmps25
        go_wp2
        go_ret
        exact ⟨rfl, below_alloc (Below.refl _ _) _⟩
    · have e1 : decide (many ≤ 1048576) = false := by simpa using h1
      have E : (decide (0 ≤ many) && decide (many ≤ 1048576) && decide ((rest.size : Int) = many % 64)) = false := by simp [h0, h1]
      rw [E]
      clear h1 E
      go_enter Tryd.func25, Tryd.ntmps25
      go_wp2
      go_ret
      exact ⟨rfl, below_alloc (Below.refl _ _) _⟩
  · have e1 : decide (0 ≤ many) = false := by simpa using h0
    have E : (decide (0 ≤ many) && decide (many ≤ 1048576) && decide ((rest.size : Int) = many % 64)) = false := by simp [h0]
    rw [E]
    clear h0 E
    go_enter Tryd.func25, Tryd.ntmps25
    go_wp2
    go_ret
    exact ⟨rfl, below_alloc (Below.refl _ _) _⟩
set_option maxRecDepth 100000 in
theorem refright_any (x : Hs) (w : World) :
    Calls Tryd.prog 26 #[.agg (hsc x)] w fun e w' => e = .returned (.bool (rightH x)) ∧ Below w.heap.size w w' := by
  obtain ⟨H, rest, many⟩ := x
  simp only [hsc, rightH]
  by_cases h0 : 0 ≤ many
  · by_cases h1 : many ≤ 1048576
    · by_cases h2 : (rest.size : Int) = many % 64
      · have e1 : ((rest.size : Int) == many % 64) = true := beq_iff_eq.2 h2
        have E : (decide (0 ≤ many) && decide (many ≤ 1048576) && decide ((rest.size : Int) = many % 64)) = true := by simp [h0, h1, h2]
        rw [E]
        clear h2 E
        go_enter Tryd.func26, Tryd.ntmps26
        go_wp2
        go_ret
        exact ⟨rfl, below_alloc (Below.refl _ _) _⟩
      · have e1 : ((rest.size : Int) == many % 64) = false := beq_eq_false_iff_ne.2 h2
        have E : (decide (0 ≤ many) && decide (many ≤ 1048576) && decide ((rest.size : Int) = many % 64)) = false := by simp [h0, h1, h2]
        rw [E]
        clear h2 E
        go_enter Tryd.func26, Tryd.ntmps26
        go_wp2
        go_ret
        exact ⟨rfl, below_alloc (Below.refl _ _) _⟩
    · have e1 : decide (many ≤ 1048576) = false := by simpa using h1
      have E : (decide (0 ≤ many) && decide (many ≤ 1048576) && decide ((rest.size : Int) = many % 64)) = false := by simp [h0, h1]
      rw [E]
      clear h1 E
      go_enter Tryd.func26, Tryd.ntmps26
      go_wp2
      go_ret
      exact ⟨rfl, below_alloc (Below.refl _ _) _⟩
  · have e1 : decide (0 ≤ many) = false := by simpa using h0
    have E : (decide (0 ≤ many) && decide (many ≤ 1048576) && decide ((rest.size : Int) = many % 64)) = false := by simp [h0]
    rw [E]
    clear h0 E
    go_enter Tryd.func26, Tryd.ntmps26
    go_wp2
    go_ret
    exact ⟨rfl, below_alloc (Below.refl _ _) _⟩
set_option maxRecDepth 100000 in
theorem start_calls (w : World) : Calls Tryd.prog 45 #[] w fun e w' => e = .returned (.agg (s8c start8)) ∧ Below w.heap.size w w' := by
  go_enter Tryd.func45, Tryd.ntmps45
  go_wp2
  exact bodyPost_ret (v := .agg (s8c start8)) (by simp [results, Tryd.results45, go_sem]; rfl) rfl ⟨rfl, below_alloc (Below.refl _ _) _⟩
set_option maxRecDepth 100000 in
theorem first_calls (w : World) : Calls Tryd.prog 46 #[] w fun e w' => e = .returned (.agg (s8c start8)) ∧ Below w.heap.size w w' := by
  go_enter Tryd.func46, Tryd.ntmps46
  go_wp2
  exact bodyPost_ret (v := .agg (s8c start8)) (by simp [results, Tryd.results46, go_sem]; rfl) rfl ⟨rfl, below_alloc (Below.refl _ _) _⟩
set_option maxRecDepth 100000 in
theorem new_calls (w : World) : Calls Tryd.prog 18 #[] w fun e w' => e = .returned (.agg (hsc newH)) ∧ Below w.heap.size w w' := by
  go_enter Tryd.func18, Tryd.ntmps18
  go_wp2_with (first
    | (go_at_call 45; with_reducible refine (start_calls _).mono ?_; rintro e W1 ⟨rfl, hb⟩; have HB := Lib.hid hb; clear hb)
    | (with_reducible refine wpList_store_row rfl 25 (.tmp 0) (.tmp 2) rfl w.heap.size (hsc newH) rfl (by first | rfl | kernel_rfl) 25 _ (blk_same (heap_alloc_new w _) HB.out) (by kernel_rfl) (by first | rfl | kernel_rfl) (by first | rfl | kernel_rfl) ?_))
  have hR := setRow_heap W1 w.heap.size _ (hsc newH) _ _ (blk_same (heap_alloc_new w _) HB.out)
  have hB : Below w.heap.size w (W1.setRow w.heap.size (hsc newH)) := below_setRow ((below_alloc (Below.refl _ _) _).trans (HB.out.mono (by simp only [World.size_alloc]; omega))) (Nat.le_refl _) _
  exact bodyPost_ret (results_cell_row rfl _ _ w.heap.size 25 _ (0, 0) _ rfl hR Tryd.underlying25 rfl (by kernel_rfl)) rfl ⟨rfl, hB⟩
set_option maxRecDepth 100000 in
theorem refnew_calls (w : World) : Calls Tryd.prog 20 #[] w fun e w' => e = .returned (.agg (hsc newH)) ∧ Below w.heap.size w w' := by
  go_enter Tryd.func20, Tryd.ntmps20
  go_wp2_with (first
    | (go_at_call 46; with_reducible refine (first_calls _).mono ?_; rintro e W1 ⟨rfl, hb⟩; have HB := Lib.hid hb; clear hb)
    | (with_reducible refine wpList_store_row rfl 25 (.tmp 0) (.tmp 2) rfl w.heap.size (hsc newH) rfl (by first | rfl | kernel_rfl) 25 _ (blk_same (heap_alloc_new w _) HB.out) (by kernel_rfl) (by first | rfl | kernel_rfl) (by first | rfl | kernel_rfl) ?_))
  have hR := setRow_heap W1 w.heap.size _ (hsc newH) _ _ (blk_same (heap_alloc_new w _) HB.out)
  have hB : Below w.heap.size w (W1.setRow w.heap.size (hsc newH)) := below_setRow ((below_alloc (Below.refl _ _) _).trans (HB.out.mono (by simp only [World.size_alloc]; omega))) (Nat.le_refl _) _
  exact bodyPost_ret (results_cell_row rfl _ _ w.heap.size 25 _ (0, 0) _ rfl hR Tryd.underlying25 rfl (by kernel_rfl)) rfl ⟨rfl, hB⟩
theorem blocks_calls (s : ByteArray) (w : World) :
    Calls Tryd.prog 44 #[.string s] w fun e w' => e = .returned (.func (.func 61) #[] #[.pointer (some ⟨w.heap.size, 0, none⟩)]) ∧ w' = w.alloc (.cells #[.string s] 9) := by
  go_enter Tryd.func44, Tryd.ntmps44
  go_wp2
  go_ret
  exact ⟨rfl, rfl⟩
/-- What the iterator over a text's blocks asks of a round. -/
def Kb (bb : Nat) (X Y : World) : Prop := ∀ cs t fr, X.heap[bb]? = some (.cells cs t fr) → Y.heap[bb]? = some (.cells cs t fr)
/-- .. and what it does between two. -/
def Tb (B bb : Nat) (X Y : World) : Prop := Gb bb X Y ∧ KeepsFrom B X Y
def leftOf (bb : Nat) (W : World) : Nat := match W.cell? ⟨bb, 0, none⟩ with | some (.string t) => t.size | _ => 0
theorem leftOf_eq {bb : Nat} {W : World} {t : ByteArray} (h : W.cell? ⟨bb, 0, none⟩ = some (.string t)) : leftOf bb W = t.size := by unfold leftOf; rw [h]
theorem extract_head (s : ByteArray) (k : Nat) (h : 64 * k + 64 ≤ s.size) : (s.extract (64 * k) s.size).extract 0 64 = s.extract (64 * k) (64 * k + 64) := by
  rw [ByteArray.extract_extract]; congr 1; omega
theorem extract_tail (s : ByteArray) (k : Nat) (h : 64 * k + 64 ≤ s.size) : (s.extract (64 * k) s.size).extract 64 (s.size - 64 * k) = s.extract (64 * (k + 1)) s.size := by
  rw [ByteArray.extract_extract]; congr 1 <;> omega
set_option maxRecDepth 100000 in
set_option maxHeartbeats 4000000 in
theorem blocks_seq (m : Nat) (hm : 1 ≤ m) (s : ByteArray) (hs : s.size ≤ 1099511627776) (B bb : Nat) :
    IterSeq Fence.wide m Tryd.prog 61 #[.pointer (some ⟨bb, 0, none⟩)] (fun k => #[.string (s.extract (64 * k) (64 * k + 64))]) (s.size / 64) (fun W => W.heap[bb]? = some (.cells #[.string s] 9 (0, 0))) (Tb B bb) (Kb bb) := by
  rintro l J Jx W hbk hJT hJxT hY h0
  refine callsIn_of_wp Tryd.func61 rfl trivial ?_ rfl
  simp only [Tryd.ntmps61, List.size_toArray, List.length_cons, List.length_nil, Nat.reduceAdd, Nat.reduceSub, Array.replicate_succ, Array.replicate_zero, List.push_toArray, List.append_toArray, List.nil_append, List.cons_append]
  gi_wp2
  gi_loopw [3] (fun v wr => ∃ k : Nat, 64 * k ≤ s.size ∧ wr.heap[bb]? = some (.cells #[.string (s.extract (64 * k) s.size)] 9 (0, 0)) ∧ J k wr)
    (fun _ wr => leftOf bb wr)
  case atStart => exact ⟨0, by omega, by rw [hbk]; simp, h0⟩
  case round =>
    obtain ⟨k, hk, hbw, hJs⟩ := hrel
    have c1 := (blk_cell hbw 0).trans rfl
    have hlo := leftOf_eq c1
    have HLO := Lib.hid hlo
    have HBW := Lib.hid hbw
    have hz : ((s.extract (64 * k) s.size).size : Int) = (s.size : Int) - 64 * (k : Int) := by rw [ByteArray.size_extract]; omega
    have HZ := Lib.hid hz
    clear hlo hbw hz
    by_cases hlt : 64 * k + 64 ≤ s.size
    · have hx := extract_head s k hlt
      have hx2 := extract_tail s k hlt
      have HX2 := Lib.hid hx2
      have hge : 64 ≤ ((s.extract (64 * k) s.size).size : Int) := by rw [HZ.out]; omega
      obtain ⟨fn, tmps, assign, body, hy, hYR⟩ := hY k _ hJs (by omega)
      clear hx2
      gi_wp2
      refine hYR.mono ?_
      rintro e W3 (⟨rfl, hJ3, hk3⟩ | ⟨rfl, hJx3⟩)
      · have b3 := hk3 _ _ _ HBW.out
        have d1 := (blk_cell b3 0).trans rfl
        have d2 := blk_frozen b3 0
        have B3 := Lib.hid b3
        have hx2 := HX2.out
        clear b3 hx c1
        gi_wp2
        have hset := blk_set B3.out 0 (.string (s.extract (64 * (k + 1)) s.size))
        have hT : Tb B bb W3 (W3.setCell ⟨bb, 0, none⟩ (.string (s.extract (64 * (k + 1)) s.size))) := ⟨gb_set _ _ _, gb_keeps (gb_set _ _ _) B3.out⟩
        have hlo2 : leftOf bb (W3.setCell ⟨bb, 0, none⟩ (.string (s.extract (64 * (k + 1)) s.size))) = (s.extract (64 * (k + 1)) s.size).size := leftOf_eq ((blk_cell hset 0).trans rfl)
        go_roundw
        case rel => exact ⟨k + 1, by omega, hset, hJT _ _ _ hJ3 hT⟩
        case measure => rw [hlo2, HLO.out, ByteArray.size_extract, ByteArray.size_extract]; omega
      · gi_wp2
        refine bodyPost_ret (results_none rfl _ _ _) rfl ?_
        exact ⟨⟨_, rfl⟩, .inr ⟨k + 1, by omega, hJx3⟩⟩
    · have hge : ((s.extract (64 * k) s.size).size : Int) < 64 := by rw [HZ.out]; omega
      obtain hkk : k = s.size / 64 := by omega
      rw [hkk] at hJs
      have HJ := Lib.hid hJs
      clear hJs hkk
      gi_wp2
      go_end0
      exact ⟨⟨_, rfl⟩, .inl HJ.out⟩
end Go.Proofs.YtajaobebcmlhaaaDoor.Pr
