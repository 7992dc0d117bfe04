/-
  The law DigestLong: walked. Condition: the words of the rounds lie where the program has them; the numbers are int's.
-/
import Derived.Test.YtajaobebcmlhaaaDoorStays
namespace Go.Proofs.YtajaobebcmlhaaaDoor.Pr
open Go.RowKit Go.Shelf Go.Proofs.YtajaobebcmlhaaaDoor.XB Go.Proofs.Sha Go.Proofs.YtajaobebcmlhaaaDoorW.PrintWords
attribute [local go_sem] Oper.semAt_some
set_option linter.unusedVariables false
set_option linter.unusedSimpArgs false
def zs (m : Nat) : ByteArray := ⟨(List.replicate m 0).toArray⟩
theorem zs_size (m : Nat) : (zs m).size = m := by show (List.replicate m (0 : UInt8)).toArray.size = m; simp
def zc (m : Nat) : Array Value := madeCells #[.int .u8 0] m
theorem run_mk (m : Nat) (hm : m ≤ 1048576) (W : World) : Sem.run Tryd.prog (Instr.makeSlice 44 (.int .i64 m) (.int .i64 m)) W = .ok (.slice (some ⟨W.heap.size, 0, none⟩) m m) (W.alloc (.cells (zc m) 5)) := by
  obtain ⟨ti, hti, tz, ts, tb⟩ := info5
  have := run_make (P := Tryd.prog) W 44 5 ti (.int .u8 0) Tryd.underlying44 hti tz .i64 .i64 m m (by omega) (Int.le_refl _) (by rw [tb]; omega) (by omega)
  rw [ts] at this
  simpa [zc, Value.cells] using this
theorem strOf_zero (m : Nat) : strOfNums (List.replicate m 0) = zs m := by
  unfold strOfNums zs
  rw [List.map_replicate]
  rfl
theorem run_cv (m : Nat) (W : World) (g : Nat) (fr : Nat × Nat) (h : W.heap[g]? = some (.cells (zc m) 5 fr)) : Sem.run Tryd.prog (convert 44 9 (.slice (some ⟨g, 0, none⟩) m m)) W = .ok (.string (zs m)) W := by
  have := run_convert_bytes_arg (P := Tryd.prog) W 44 5 Tryd.underlying44 Tryd.underlying5 g 0 m m (List.replicate m 0) (by simp) (fun j hj => by
    have hj' : j < m := by simpa using hj
    rw [Nat.zero_add, cell_of_row W g j _ 5 fr h]
    simp [zc, madeCells, hj', Nat.mod_one]) 9 Tryd.underlying9
  rw [this, strOf_zero]
/-- What a sum on its way of so many bytes makes of more. -/
theorem long_add (h : S8) (n k : Nat) (hn : n ≤ 1048576) (hk : k ≤ 200) :
    (n + k ≤ 1048576 → ∃ A O, addH ⟨h, zs (n % 64), n⟩ (zs k) = (A, 0) ∧ A.many = n + k ∧ A.rest.size = (n + k) % 64 ∧ endH A = (O, 0) ∧ O.size = 32) ∧
    (1048576 < n + k → addH ⟨h, zs (n % 64), n⟩ (zs k) = (zeroH, 2)) := by
  have hr : rightH ⟨h, zs (n % 64), n⟩ = true := by
    rw [rightH_iff]
    refine ⟨by simp, by simpa using (by omega : (n : Int) ≤ 1048576), ?_⟩
    simp only [zs_size]; omega
  constructor
  · intro hl
    obtain ⟨e, r⟩ := addH_right _ (zs k) hr (by simp only [zs_size]; omega)
    rw [e] at r
    obtain ⟨e0, e1⟩ := endH_right _ r
    refine ⟨_, _, e, by simp only [zs_size], ?_, Prod.ext rfl e0, e1⟩
    simp only [tail_size, ByteArray.size_append, zs_size]
    omega
  · intro hl
    unfold addH
    rw [if_pos hr, if_pos (by simp only [zs_size]; omega)]
class Two (W X : World) : Prop where
  h : Below W.heap.size W X
instance (W : World) (o : Obj) : Two W (W.alloc o) := ⟨below_alloc (Below.refl _ _) _⟩
instance (W : World) (o : Obj) : Two W (W.alloc o).drew := ⟨below_drew1 (below_alloc (Below.refl _ _) _)⟩
instance (W : World) (o p : Obj) : Two W ((W.alloc o).alloc p) := ⟨below_alloc (below_alloc (Below.refl _ _) _) _⟩
instance (W : World) (o p : Obj) : Two W ((W.alloc o).alloc p).drew := ⟨below_drew1 (below_alloc (below_alloc (Below.refl _ _) _) _)⟩
theorem two_below {w W X : World} [hx : Two W X] (hw : Below w.heap.size w W) : Below w.heap.size w X := hw.trans (hx.h.mono hw.size)
theorem two_chain {w W X Y : World} [hx : Two W X] (hw : Below w.heap.size w W) (h : Below X.heap.size X Y) : Below w.heap.size w Y :=
  (two_below (X := X) hw).trans (h.mono (two_below (X := X) hw).size)
set_option maxRecDepth 100000 in
set_option maxHeartbeats 4000000 in
theorem long_calls (a b : Int) (h : S8) (w : World) (hG : Tbl w) (ha0 : -9223372036854775808 ≤ a) (ha1 : a ≤ 9223372036854775807) (hb0 : -9223372036854775808 ≤ b) (hb1 : b ≤ 9223372036854775807) :
    Calls Tryd.prog 5 #[.int .i64 a, .int .i64 b, .agg (s8c h)] w fun e w' => e = .returned (.bool true) ∧ Below w.heap.size w w' := by
  have HG := Lib.hid hG
  clear hG
  obtain ⟨n, hn, hn0, hn1⟩ : ∃ n : Nat, 1048576 - pickN a 130 = n ∧ n ≤ 1048576 ∧ 1048000 ≤ n := ⟨(1048576 - pickN a 130).toNat, by unfold pickN; omega, by unfold pickN; omega, by unfold pickN; omega⟩
  obtain ⟨k, hk, hk0⟩ : ∃ k : Nat, pickN b 200 = k ∧ k ≤ 200 := ⟨(pickN b 200).toNat, by unfold pickN; omega, by unfold pickN; omega⟩
  have HP := Lib.hid (fun W => pick_calls a 130 W ha0 ha1 (by omega) (by omega))
  have HQ := Lib.hid (fun W => pick_calls b 200 W hb0 hb1 (by omega) (by omega))
  generalize pickN a 130 = pa at *
  generalize pickN b 200 = pb at *
  subst hk
  have hpa : pa = 1048576 - (n : Int) := by omega
  subst hpa
  clear hn
  obtain ⟨hl0, hl1⟩ := long_add h n k hn0 hk0
  go_enter Tryd.func5, Tryd.ntmps5
  go_wp2_with (first
    | (go_at_call 14; with_reducible refine (awake_calls _ (HG.out.below (below_alloc (Below.refl _ _) _))).mono ?_; rintro e W1 ⟨rfl, hb⟩; have HR1 := Lib.hid (blk_same (heap_alloc_new w _) hb); have HB1 := Lib.hid ((below_alloc (Below.refl w.heap.size w) _).trans (hb.mono (by rw [World.size_alloc]; omega))); clear hb)
    | (go_at_call 22; with_reducible refine (HP.out _).mono ?_; rintro e W2 ⟨rfl, rfl⟩)
    | (go_at_call 22; with_reducible refine (HQ.out _).mono ?_; rintro e W3 ⟨rfl, rfl⟩))
  obtain ⟨m, hm1, hm2⟩ : ∃ m : Nat, (n : Int) % 64 = (m : Int) ∧ m = n % 64 := ⟨n % 64, by omega, rfl⟩
  have hm3 : (n : Int).tmod 64 = (m : Int) := by rw [Int.tmod_eq_emod_of_nonneg (by omega), hm1]
  rw [← hm2] at hl0 hl1
  have HM := Lib.hid hm2
  clear hm2
  simp only [show (1048576 : Int) - (1048576 - (n : Int)) = n by omega]
  go_cut [10] from 21 to 27 (fun v10 wx => ∃ g, v10 = .pointer (some ⟨g, 0, none⟩) ∧ wx.heap[g]? = some (.cells (hsc ⟨h, zs m, n⟩) 25 (0, 0)) ∧ w.heap.size ≤ g ∧ Below w.heap.size w wx)
  case first =>
    have hr1 := HR1.out
    unfold s8c at hr1
    have c0 := (blk_cell hr1 0).trans rfl
    have c1 := (blk_cell hr1 1).trans rfl
    have c2 := (blk_cell hr1 2).trans rfl
    have c3 := (blk_cell hr1 3).trans rfl
    have c4 := (blk_cell hr1 4).trans rfl
    have c5 := (blk_cell hr1 5).trans rfl
    have c6 := (blk_cell hr1 6).trans rfl
    have c7 := (blk_cell hr1 7).trans rfl
    have zW : w.heap.size < W3.heap.size := blk_lt HR1.out
    have hm := run_mk m (by omega)
    have kv := fun (W : World) (g : Nat) (q : W.heap[g]? = some (.cells (zc m) 5 (0, 0))) => run_cv m W g (0, 0) q
    have f0 : ∀ (W : World) (o : Obj), (W.alloc o).heap = W.heap.push o := fun _ _ => rfl
    have f1 : ∀ (W : World), W.drew.heap = W.heap := fun _ => rfl
    have f5 : ∀ (xs : Array Obj) (o : Obj) (i : Nat), (xs.push o)[i]? = if i = xs.size then some o else xs[i]? := fun _ _ _ => Array.getElem?_push
    have f6 : ∀ (xs : Array Obj) (o : Obj), (xs.push o).size = xs.size + 1 := fun _ _ => Array.size_push ..
    have f8 : ∀ (xs : Array Obj) (c o : Obj) (q : xs.size + 1 < ((xs.push c).push o).size), ((xs.push c).push o)[xs.size + 1]'q = o := fun xs c o q => by simp [Array.getElem_push]
    have f9 : ∀ (xs : Array Obj) (c o : Obj) (q : xs.size < ((xs.push c).push o).size), ((xs.push c).push o)[xs.size]'q = c := fun xs c o q => by simp [Array.getElem_push]
    clear hr1 hl0 hl1
    go_region
    all_goals (go_wp2_with fail; go_meet)
    all_goals first
      | exact ⟨_, rfl, heap_alloc2_new W3 _ _, by omega, below_drew1 (below_alloc (below_alloc HB1.out _) _)⟩
      | exact ⟨_, rfl, blk_alloc (heap_alloc_new W3 _) _, by omega, below_drew1 (below_alloc (below_alloc HB1.out _) _)⟩
  case rest =>
    obtain ⟨g, rfl, hrow, hgw, hB2⟩ := hcut
    have zg : g < wc.heap.size := blk_lt hrow
    obtain ⟨R, r, hR⟩ : ∃ R r, addH ⟨h, zs m, n⟩ (zs k) = (R, r) := ⟨_, _, rfl⟩
    rw [hR] at hl0 hl1
    have ha := fun W (q : Tbl W) => add_calls ⟨h, zs m, n⟩ (zs k) W q
    rw [hR] at ha
    simp only [hsc] at ha
    have HA := Lib.hid ha
    have HW := Lib.hid hrow
    have HB2 := Lib.hid hB2
    clear ha hrow hB2
    go_wp2_with fail
    go_cut [11, 12] from 28 to 35 (fun v11 v12 wx => ∃ g', v11 = .pointer (some ⟨g', 0, none⟩) ∧ v12 = .int .i64 r ∧ wx.heap[g']? = some (.cells (hsc R) 25 (0, 0)) ∧ w.heap.size ≤ g' ∧ Below w.heap.size w wx)
    case first =>
      have hr1 := HW.out
      unfold hsc at hr1
      have c0 := (blk_cell hr1 0).trans rfl
      have c1 := (blk_cell hr1 1).trans rfl
      have c2 := (blk_cell hr1 2).trans rfl
      have c3 := (blk_cell hr1 3).trans rfl
      have c4 := (blk_cell hr1 4).trans rfl
      have c5 := (blk_cell hr1 5).trans rfl
      have c6 := (blk_cell hr1 6).trans rfl
      have c7 := (blk_cell hr1 7).trans rfl
      have c8 := (blk_cell hr1 8).trans rfl
      have c9 := (blk_cell hr1 9).trans rfl
      have hm := run_mk k (by omega)
      have kv := fun (W : World) (g : Nat) (q : W.heap[g]? = some (.cells (zc k) 5 (0, 0))) => run_cv k W g (0, 0) q
      have f0 : ∀ (W : World) (o : Obj), (W.alloc o).heap = W.heap.push o := fun _ _ => rfl
      have f1 : ∀ (W : World), W.drew.heap = W.heap := fun _ => rfl
      have f5 : ∀ (xs : Array Obj) (o : Obj) (i : Nat), (xs.push o)[i]? = if i = xs.size then some o else xs[i]? := fun _ _ _ => Array.getElem?_push
      have f6 : ∀ (xs : Array Obj) (o : Obj), (xs.push o).size = xs.size + 1 := fun _ _ => Array.size_push ..
      have f8 : ∀ (xs : Array Obj) (c o : Obj) (q : xs.size + 1 < ((xs.push c).push o).size), ((xs.push c).push o)[xs.size + 1]'q = o := fun xs c o q => by simp [Array.getElem_push]
      have f9 : ∀ (xs : Array Obj) (c o : Obj) (q : xs.size < ((xs.push c).push o).size), ((xs.push c).push o)[xs.size]'q = c := fun xs c o q => by simp [Array.getElem_push]
      clear hr1 hl0 hl1
      go_region_with ((go_at_call 17; refine (HA.out _ (HG.out.below (two_below HB2.out))).mono ?_; rintro e W6 ⟨rfl, hb⟩; have B6 := Lib.hid (two_chain HB2.out hb); (first | have Gk := (show W6.heap[wc.heap.size + 1]? = some (.cells #[.int .u32 0, .int .u32 0, .int .u32 0, .int .u32 0, .int .u32 0, .int .u32 0, .int .u32 0, .int .u32 0, .string ⟨#[]⟩, .int .i64 0] 25 (0, 0)) from blk_same (by exact heap_alloc2_new wc _ _) hb) | have Gk := (show W6.heap[wc.heap.size]? = some (.cells #[.int .u32 0, .int .u32 0, .int .u32 0, .int .u32 0, .int .u32 0, .int .u32 0, .int .u32 0, .int .u32 0, .string ⟨#[]⟩, .int .i64 0] 25 (0, 0)) from blk_same (by exact heap_alloc2_old wc _ _) hb) | skip); (first | (have y0 := (blk_cell Gk 0).trans rfl; have x0 := blk_frozen Gk 0; have y1 := (blk_cell Gk 1).trans rfl; have x1 := blk_frozen Gk 1; have y2 := (blk_cell Gk 2).trans rfl; have x2 := blk_frozen Gk 2; have y3 := (blk_cell Gk 3).trans rfl; have x3 := blk_frozen Gk 3; have y4 := (blk_cell Gk 4).trans rfl; have x4 := blk_frozen Gk 4; have y5 := (blk_cell Gk 5).trans rfl; have x5 := blk_frozen Gk 5; have y6 := (blk_cell Gk 6).trans rfl; have x6 := blk_frozen Gk 6; have y7 := (blk_cell Gk 7).trans rfl; have x7 := blk_frozen Gk 7; have y8 := (blk_cell Gk 8).trans rfl; have x8 := blk_frozen Gk 8; have y9 := (blk_cell Gk 9).trans rfl; have x9 := blk_frozen Gk 9) | skip)))
      all_goals (go_wp2_with fail; go_meet)
      all_goals first
        | (have hG := Gk
           refine ⟨_, rfl, rfl, put10 Gk, by omega, ?_⟩
           exact B6.out.trans (gb_toBelow (gb_put10 _) B6.out.size (by omega)))
        | (refine ⟨_, rfl, rfl, ?_, B6.out.size, ?_⟩
           · first | with_reducible exact heap_alloc_new W6 _ | exact heap_alloc_new W6 _
           · first | with_reducible exact below_alloc B6.out _ | with_reducible exact below_drew1 (below_alloc B6.out _))
    case rest =>
      obtain ⟨g', rfl, rfl, hrow', hgw', hB3⟩ := hcut
      have HW3 := Lib.hid hrow'
      have HB3 := Lib.hid hB3
      have hr3 := hrow'
      unfold hsc at hr3
      clear hrow' hB3 HA HW HB2
      by_cases hle : n + k ≤ 1048576
      · obtain ⟨A, O, e1, e2, e3, e4, e5⟩ := hl0 hle
        obtain ⟨rfl, rfl⟩ := Prod.mk.inj e1
        have hgt : ¬ (1048576 : Int) < (n : Int) + (k : Int) := by omega
        have hE : ∀ W, Tbl W → Calls Tryd.prog 23 #[.agg (hsc R)] W fun e w' => e = .returned (.tuple #[.string O, .int .i64 0]) ∧ Below W.heap.size W w' := fun W q => by have := end_calls R W q; rw [e4] at this; exact this
        have HE := Lib.hid hE
        have e6 : (R.rest.size : Int) = ((n : Int) + (k : Int)) % 64 := by omega
        clear e1 e3 e4 hE hl0 hl1 hR
        go_wp2_with (first
          | (with_reducible refine wpList_load_row rfl 25 (.tmp 11) rfl g' rfl 25 (hsc R) (0, 0) _ HW3.out Tryd.underlying25 rfl (by kernel_rfl) ?_)
          | (go_at_call 23; with_reducible refine (HE.out _ (HG.out.below HB3.out)).mono ?_; rintro e W7 ⟨rfl, hb⟩; have hr7 := blk_same hr3 hb; have z8 := (blk_cell hr7 8).trans rfl; have z9 := (blk_cell hr7 9).trans rfl; have HB7 := Lib.hid (HB3.out.trans (hb.mono HB3.out.size)); clear hb hr3 hr7))
        go_ret
        exact ⟨rfl, HB7.out⟩
      · have e1 := hl1 (by omega)
        obtain ⟨rfl, rfl⟩ := Prod.mk.inj e1
        have hgt : (1048576 : Int) < (n : Int) + (k : Int) := by omega
        have z8 := (blk_cell hr3 8).trans rfl
        have z9 := (blk_cell hr3 9).trans rfl
        clear e1 hl0 hl1 hR hr3
        go_wp2_with fail
        have hz : zeroH.rest.toList.isEmpty = true := by decide +kernel
        simp only [hz]
        go_ret
        exact ⟨rfl, HB3.out⟩
end Go.Proofs.YtajaobebcmlhaaaDoor.Pr
