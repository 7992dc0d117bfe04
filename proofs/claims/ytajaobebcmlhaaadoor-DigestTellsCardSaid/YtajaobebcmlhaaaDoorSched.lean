/-
  The words of a block, one by one, out of the iterator behind digest.schedule. Condition: the block has 64 bytes.
-/
import Derived.Test.YtajaobebcmlhaaaDoorWord
import Derived.Test.YtajaobebcmlhaaaDoorXQuiet
import Derived.IntWalk
namespace Go.Proofs.YtajaobebcmlhaaaDoor.Pr
open Go.RowKit Go.Shelf Go.Proofs.YtajaobebcmlhaaaDoor.XB Go.Proofs.Sha Go.Proofs.YtajaobebcmlhaaaDoorW.PrintWords
attribute [local go_sem] Oper.semAt_some
set_option linter.unusedVariables false
/-- What an iterator with memory of its own, from block B on, does between two rounds. -/
def Tch (B : Nat) (X Y : World) : Prop := Below B X Y ∧ KeepsFrom B X Y
/-- .. and what it asks of a round. -/
def Kp (B bb : Nat) (X Y : World) : Prop := ∀ g cs t fr, (B ≤ g ∨ g = bb) → X.heap[g]? = some (.cells cs t fr) → Y.heap[g]? = some (.cells cs t fr)
def Ring (s : ByteArray) (g k : Nat) (W : World) : Prop := ∃ cs : Array Value, W.heap[g]? = some (.cells cs 95 (0, 0)) ∧ cs.size = 16 ∧ ∀ j, j < 16 → cs[j]? = some (.int .u32 (u (rg s k j)))
def SStart (s : ByteArray) (B bb : Nat) (W : World) : Prop := B ≤ W.heap.size ∧ bb < B ∧ W.heap[bb]? = some (.cells #[.string s] 9 (0, 0))
theorem ring_cell {s : ByteArray} {g k : Nat} {W : World} (h : Ring s g k W) (j : Nat) (hj : j < 16) : W.cell? ⟨g, j, none⟩ = some (.int .u32 (u (rg s k j))) := by
  obtain ⟨cs, hb, _, hc⟩ := h
  exact (blk_cell hb j).trans (hc j hj)
theorem ring_frozen {s : ByteArray} {g k : Nat} {W : World} (h : Ring s g k W) (j : Nat) : W.frozen? ⟨g, j, none⟩ = false := by
  obtain ⟨cs, hb, _, hc⟩ := h
  exact blk_frozen hb j
theorem ring_below {s : ByteArray} {g k : Nat} {W W1 : World} (h : Ring s g k W) (hb : Below W.heap.size W W1) : Ring s g k W1 := by
  obtain ⟨cs, h1, h2⟩ := h
  exact ⟨cs, blk_same h1 hb, h2⟩
theorem ring_put {s : ByteArray} {g k : Nat} {W : World} (h : Ring s g k W) : Ring s g (k + 1) (W.setCell ⟨g, k % 16, none⟩ (.int .u32 (u (wd s k)))) := by
  obtain ⟨cs, h1, h2, h3⟩ := h
  refine ⟨cs.setIfInBounds (k % 16) (.int .u32 (u (wd s k))), blk_set h1 (k % 16) _, by simp [h2], fun j hj => ?_⟩
  rw [rg_succ s k j hj, Array.getElem?_setIfInBounds]
  by_cases e : k % 16 = j
  · rw [if_pos e, if_pos (by omega), if_pos e.symm]
  · rw [if_neg e, if_neg (fun h => e h.symm)]; exact h3 j hj
theorem ring_kp {s : ByteArray} {B bb g k : Nat} {W W1 : World} (h : Ring s g k W) (hg : B ≤ g) (hk : Kp B bb W W1) : Ring s g k W1 := by
  obtain ⟨cs, h1, h2⟩ := h
  exact ⟨cs, hk _ _ _ _ (.inl hg) h1, h2⟩
theorem ring_lt {s : ByteArray} {g k : Nat} {W : World} (h : Ring s g k W) : g < W.heap.size := by
  obtain ⟨cs, h1, h2⟩ := h
  exact blk_lt h1
theorem tch_step {B : Nat} {W W1 : World} (hB : B ≤ W.heap.size) (h : Below W.heap.size W W1) : Tch B W W1 := ⟨h.mono hB, keeps_below h⟩
theorem Tch.trans {B : Nat} {X Y Z : World} (h : Tch B X Y) (k : Tch B Y Z) : Tch B X Z := ⟨h.1.trans k.1, h.2.trans k.2⟩
theorem tch_set {B : Nat} {W : World} {p : Addr} (hp : B ≤ p.block) (v : Value) : Tch B W (W.setCell p v) := ⟨(Below.refl B W).setCell hp v, keeps_set (KeepsFrom.refl _ _) p v⟩
theorem tch_drewN {B : Nat} {W W1 : World} (h : Tch B W W1) (n : Nat) : Tch B W (W1.drewN n) := ⟨pw_below_drewN h.1 n, ⟨h.2.1, fun k o h1 h2 h3 => h.2.2 k o h1 h2 h3⟩⟩
set_option maxRecDepth 100000 in
set_option maxHeartbeats 4000000 in
theorem sched_seq (m : Nat) (hm : 1 ≤ m) (s : ByteArray) (hs : s.size = 64) (B bb : Nat) :
    IterSeq Fence.wide m Tryd.prog 58 #[.pointer (some ⟨bb, 0, none⟩)] (fun k => #[.int .i64 (k : Int), .int .u32 (u (wd s k))]) 64 (SStart s B bb) (Tch B) (Kp B bb) := by
  rintro l J Jx W ⟨hB, hbb, hbk⟩ hJT hJxT hY h0
  refine callsIn_of_wp Tryd.func58 rfl trivial ?_ rfl
  simp only [Tryd.ntmps58, List.size_toArray, List.length_cons, List.length_nil, Nat.reduceAdd, Nat.reduceSub, Array.replicate_succ, Array.replicate_zero, List.push_toArray, List.append_toArray, List.nil_append, List.cons_append]
  gi_wp2
  gi_loopw [8] (fun i wr => ∃ k : Nat, k ≤ 64 ∧ i = .int .i64 k ∧ J k wr ∧ Ring s W.heap.size k wr ∧ wr.heap[bb]? = some (.cells #[.string s] 9 (0, 0)))
    (fun i _ => 64 - (intOf i).toNat)
  case atStart =>
    refine ⟨0, by omega, rfl, hJT 0 _ _ h0 (tch_step hB (below_alloc (Below.refl _ _) _)), ⟨_, heap_alloc_new W _, rfl, fun j hj => ?_⟩, blk_alloc hbk _⟩
    have hz : rg s 0 j = 0 := by simp [rg]
    rw [hz]
    match j, hj with
    | 0, _ => exact rfl | 1, _ => exact rfl | 2, _ => exact rfl | 3, _ => exact rfl | 4, _ => exact rfl | 5, _ => exact rfl | 6, _ => exact rfl | 7, _ => exact rfl | 8, _ => exact rfl | 9, _ => exact rfl | 10, _ => exact rfl | 11, _ => exact rfl | 12, _ => exact rfl | 13, _ => exact rfl | 14, _ => exact rfl | 15, _ => exact rfl | j + 16, h => exact absurd h (by omega)
  case round =>
    obtain ⟨k, hk, rfl, hJs, hR, hbw⟩ := hrel
    by_cases hlt : k < 64
    · by_cases h16 : k < 16
      · have c1 := (blk_cell hbw 0).trans rfl
        have hq1 : 0 ≤ (k : Int) % 16 := by omega
        have hq2 : (k : Int) % 16 < 16 := by omega
        have HBW := Lib.hid hbw
        have HRI := Lib.hid hR
        clear hR hbw
        have hz1 : (4 * (k : Int) + 4) ≤ (s.size : Int) := by omega
        have hz2 : 0 ≤ (4 * (k : Int) + 4) := by omega
        have hz3 : 0 ≤ (4 * (k : Int)) := by omega
        have hz4 : (4 * (k : Int)) ≤ (4 * (k : Int) + 4) := by omega
        have hz5 : (k : Int) < 16 := by omega
        have hz6 : (k : Int) < 64 := by omega
        clear hs
        gi_wp2_with fail
        refine ⟨trivial, (callsIn_wide.2 (word_calls (s.extract (4 * k) (4 * k + 4)) wr (by rw [ByteArray.size_extract]; omega))).mono ?_⟩
        rintro e W1 ⟨rfl, hb⟩
        rw [show (be (s.extract (4 * k) (4 * k + 4)).data.toList) = bw s k from rfl, ← wd_lo s k h16]
        have hR1 := ring_below HRI.out hb
        have d1 := ring_cell hR1 (k % 16) (by omega)
        have d2 := ring_frozen hR1 (k % 16)
        have hT := (tch_step (Nat.le_trans hB (Nat.le_of_lt (ring_lt HRI.out))) hb).trans (tch_set (W := W1) (p := ⟨W.heap.size, k % 16, none⟩) hB (.int .u32 (u (wd s k))))
        obtain ⟨fn, tmps, assign, body, hy, hYR⟩ := hY k _ (hJT k _ _ hJs hT) hlt
        gi_wp2
        refine hYR.mono ?_
        rintro e W3 (⟨rfl, hJ3, hk3⟩ | ⟨rfl, hJx3⟩)
        · have hR2 := ring_put hR1
          gi_wp2
          go_roundw
          case rel => exact ⟨k + 1, by omega, by simp, hJ3, ring_kp hR2 hB hk3, hk3 _ _ _ _ (.inr rfl) (blk_far (blk_same HBW.out hb) (Nat.ne_of_lt (Nat.lt_of_lt_of_le hbb hB)) _)⟩
          case measure => simp [intOf]; omega
        · gi_wp2
          refine bodyPost_ret (results_none rfl _ _ _) rfl ?_
          exact ⟨⟨_, rfl⟩, .inr ⟨k + 1, by omega, hJx3⟩⟩
      · have hz5 : 16 ≤ (k : Int) := by omega
        have hz6 : (k : Int) < 64 := by omega
        have hR0 := hR
        have HBW := Lib.hid hbw
        have HRI := Lib.hid hR
        clear hR hbw hs
        gi_wp2
        refine wpIn_wide.2 ?_
        have hB0 : B ≤ wr.heap.size := Nat.le_trans hB (Nat.le_of_lt (ring_lt HRI.out))
        have d1 := ring_cell HRI.out ((k + 1) % 16) (by omega)
        have d2 := ring_cell HRI.out ((k + 14) % 16) (by omega)
        rw [rg_at s k 1 (by omega) (by omega)] at d1
        rw [rg_at s k 14 (by omega) (by omega)] at d2
        have hq1 : 0 ≤ (k : Int) % 16 := by omega
        have hq2 : (k : Int) % 16 < 16 := by omega
        have q1 : 0 ≤ ((k : Int) + 1) % 16 := by omega
        have q2 : ((k : Int) + 1) % 16 < 16 := by omega
        have q3 : 0 ≤ ((k : Int) + 14) % 16 := by omega
        have q4 : ((k : Int) + 14) % 16 < 16 := by omega
        have q5 : 0 ≤ ((k : Int) + 9) % 16 := by omega
        have q6 : ((k : Int) + 9) % 16 < 16 := by omega
        have hwd := wd_hi s k (by omega)
        rw [show k - 15 = k - 16 + 1 from by omega, show k - 2 = k - 16 + 14 from by omega, show k - 7 = k - 16 + 9 from by omega] at hwd
        have d3' := fun X => ring_cell (s := s) (g := W.heap.size) (k := k) (W := X)
        have d3 : ∀ X, Ring s W.heap.size k X → X.cell? ⟨W.heap.size, (k + 9) % 16, none⟩ = some (.int .u32 (u (wd s (k - 16 + 9)))) := fun X h => by rw [ring_cell h _ (by omega), rg_at s k 9 (by omega) (by omega)]
        have d4 : ∀ X, Ring s W.heap.size k X → X.cell? ⟨W.heap.size, k % 16, none⟩ = some (.int .u32 (u (wd s (k - 16)))) := fun X h => by
          have := rg_at s k 0 (by omega) (by omega)
          rw [Nat.add_zero, Nat.add_zero] at this
          rw [ring_cell h _ (by omega), this]
        generalize wd s (k - 16 + 1) = x at *
        generalize wd s (k - 16 + 14) = y at *
        generalize wd s (k - 16 + 9) = z at *
        generalize wd s (k - 16) = o at *
        have HWD := Lib.hid hwd
        clear hwd d3'
        have D3 := Lib.hid d3
        have D4 := Lib.hid d4
        clear d3 d4
        go_quiet (fail)
        have hX : Ring s W.heap.size k (wr.drewN nq) := HRI.out
        have hXB : (wr.drewN nq).heap[bb]? = some (.cells #[.string s] 9 (0, 0)) := HBW.out
        have hXJ : Tch B wr (wr.drewN nq) := tch_drewN ⟨Below.refl _ _, KeepsFrom.refl _ _⟩ nq
        generalize wr.drewN nq = X at *
        clear d1 d2 hR0
        rename_i K_ hK_
        refine hK_ _ _ ?_
        clear hK_
        gi_wp2
        refine wpIn_wide.2 ?_
        have c3 : ∀ p : XB.In (Below X.heap.size X), p.w.cell? ⟨W.heap.size, (k + 9) % 16, none⟩ = some (.int .u32 (u z)) := fun p => D3.out _ (ring_below hX p.h)
        have c4 : ∀ p : XB.In (Below X.heap.size X), p.w.cell? ⟨W.heap.size, k % 16, none⟩ = some (.int .u32 (u o)) := fun p => D4.out _ (ring_below hX p.h)
        have HX := Lib.hid hX
        have HXB := Lib.hid hXB
        have HXJ := Lib.hid hXJ
        clear hX hXB hXJ
        have t1 : ((k : Int) % 16).toNat = k % 16 := by omega
        have t2 : (((k : Int) + 9) % 16).toNat = (k + 9) % 16 := by omega
        have t3 : IntKind.i64.wrap ((k : Int) + 9) = (k : Int) + 9 := IntWalk.i64_in _ (by omega)
        have t4 : ((k : Int) + 9).tmod 16 = ((k : Int) + 9) % 16 := Int.tmod_eq_emod_of_nonneg (by omega)
        have r1 := u_add
        have r2 := u_xor
        have r3 : u x / (8 : Int) = u (x >>> 3) := u_shr x 3
        have r4 : u y / (1024 : Int) = u (y >>> 10) := u_shr y 10
        haveI hne : Nonempty (XB.In (Below X.heap.size X)) := ⟨⟨X.drew, below_drew1 (Below.refl _ _)⟩⟩
        refine XB.region_tail (fun w' => ∃ p : XB.In (Below X.heap.size X), w' = p.w) 28 (by kernel_rfl) (by kernel_rfl) ⟨⟨X.drew, below_drew1 (Below.refl _ _)⟩, rfl⟩ ?_
        simp only [List.take_succ_cons, List.take_zero, List.drop_succ_cons, List.drop_zero]
        iterate 28 quiet_step ((go_at_call 40; first | with_reducible exact XB.in_same (right7 _ _) | with_reducible exact XB.in_same (right18 _ _) | with_reducible exact XB.in_same (right17 _ _) | with_reducible exact XB.in_same (right19 _ _)))
        refine wpQuiet_nil ?_
        rintro Y ⟨⟨_, hY0⟩, rfl⟩
        have hRY := ring_below HX.out hY0
        have e1 := D4.out _ hRY
        have e2 := ring_frozen hRY (k % 16)
        have HF : u (o + (z + (rot 7 x ^^^ rot 18 x ^^^ x >>> 3) + (rot 17 y ^^^ rot 19 y ^^^ y >>> 10))) = u (wd s k) := by
          rw [HWD.out]; unfold s0 s1; congr 1; ac_rfl
        clear c3 c4 r1 r2 r3 r4 t3 t4 t2
        go_wp2
        clear HF
        have hT := (HXJ.out.trans (tch_step (Nat.le_trans hB0 HXJ.out.1.size) hY0)).trans (tch_set (W := Y) (p := ⟨W.heap.size, k % 16, none⟩) hB (.int .u32 (u (wd s k))))
        obtain ⟨fn, tmps, assign, body, hy, hYR⟩ := hY k _ (hJT k _ _ hJs hT) hlt
        gi_wp2
        refine hYR.mono ?_
        rintro e W3 (⟨rfl, hJ3, hk3⟩ | ⟨rfl, hJx3⟩)
        · have hR2 := ring_put hRY
          gi_wp2
          go_roundw
          case rel => exact ⟨k + 1, by omega, by simp, hJ3, ring_kp hR2 hB hk3, hk3 _ _ _ _ (.inr rfl) (blk_far (blk_same HXB.out hY0) (Nat.ne_of_lt (Nat.lt_of_lt_of_le hbb hB)) _)⟩
          case measure => simp [intOf]; omega
        · gi_wp2
          refine bodyPost_ret (results_none rfl _ _ _) rfl ?_
          exact ⟨⟨_, rfl⟩, .inr ⟨k + 1, by omega, hJx3⟩⟩
    · obtain rfl : k = 64 := by omega
      clear hR hbw
      gi_wp2
      go_end0
      exact ⟨⟨_, rfl⟩, .inl hJs⟩
end Go.Proofs.YtajaobebcmlhaaaDoor.Pr
