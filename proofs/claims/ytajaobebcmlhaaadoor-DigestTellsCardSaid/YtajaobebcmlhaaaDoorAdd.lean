/-
  digest.Add and the reference's: a text is added to a sum on its way. Condition (digest's alone): the words of the rounds lie where the program has them; the text is no longer than a machine's.
-/
import Derived.Test.YtajaobebcmlhaaaDoorHash
namespace Go.Proofs.YtajaobebcmlhaaaDoor.Pr
open Go.RowKit Go.Shelf Go.Proofs.YtajaobebcmlhaaaDoor.XB Go.Proofs.Sha Go.Proofs.YtajaobebcmlhaaaDoorW.PrintWords
attribute [local go_sem] Oper.semAt_some
set_option linter.unusedVariables false
def tailOf (t : ByteArray) : ByteArray := t.extract (t.size - t.size % 64) t.size
/-- What is behind a text that is added; and the error. -/
def addH (x : Hs) (s : ByteArray) : Hs × Int :=
  if rightH x = true then (if 1048576 - x.many < (s.size : Int) then (zeroH, 2) else (⟨all x.H (x.rest ++ s), tailOf (x.rest ++ s), x.many + s.size⟩, 0)) else (zeroH, 1)
theorem rightH_iff (x : Hs) : rightH x = true ↔ 0 ≤ x.many ∧ x.many ≤ 1048576 ∧ (x.rest.size : Int) = x.many % 64 := by
  simp [rightH, and_assoc]
theorem gb_put10 {g : Nat} (w : World) {y0 y1 y2 y3 y4 y5 y6 y7 y8 y9 : Value} : Gb g w ((((((((((w.setCell ⟨g, 0, none⟩ y0).setCell ⟨g, 1, none⟩ y1).setCell ⟨g, 2, none⟩ y2).setCell ⟨g, 3, none⟩ y3).setCell ⟨g, 4, none⟩ y4).setCell ⟨g, 5, none⟩ y5).setCell ⟨g, 6, none⟩ y6).setCell ⟨g, 7, none⟩ y7).setCell ⟨g, 8, none⟩ y8).setCell ⟨g, 9, none⟩ y9) :=
  gb_trans (gb_set _ _ _) (gb_trans (gb_set _ _ _) (gb_trans (gb_set _ _ _) (gb_trans (gb_set _ _ _) (gb_trans (gb_set _ _ _) (gb_trans (gb_set _ _ _) (gb_trans (gb_set _ _ _) (gb_trans (gb_set _ _ _) (gb_trans (gb_set _ _ _) (gb_set _ _ _)))))))))
theorem put10 {w : World} {g t : Nat} {x0 x1 x2 x3 x4 x5 x6 x7 x8 x9 y0 y1 y2 y3 y4 y5 y6 y7 y8 y9 : Value} (k : w.heap[g]? = some (.cells #[x0, x1, x2, x3, x4, x5, x6, x7, x8, x9] t (0, 0))) : ((((((((((w.setCell ⟨g, 0, none⟩ y0).setCell ⟨g, 1, none⟩ y1).setCell ⟨g, 2, none⟩ y2).setCell ⟨g, 3, none⟩ y3).setCell ⟨g, 4, none⟩ y4).setCell ⟨g, 5, none⟩ y5).setCell ⟨g, 6, none⟩ y6).setCell ⟨g, 7, none⟩ y7).setCell ⟨g, 8, none⟩ y8).setCell ⟨g, 9, none⟩ y9).heap[g]? = some (.cells #[y0, y1, y2, y3, y4, y5, y6, y7, y8, y9] t (0, 0)) := by
  simpa using blk_set (blk_set (blk_set (blk_set (blk_set (blk_set (blk_set (blk_set (blk_set (blk_set (k) 0 y0) 1 y1) 2 y2) 3 y3) 4 y4) 5 y5) 6 y6) 7 y7) 8 y8) 9 y9
theorem put8of10 {w : World} {g t : Nat} {x0 x1 x2 x3 x4 x5 x6 x7 x8 x9 y0 y1 y2 y3 y4 y5 y6 y7 : Value} (k : w.heap[g]? = some (.cells #[x0, x1, x2, x3, x4, x5, x6, x7, x8, x9] t (0, 0))) : ((((((((w.setCell ⟨g, 0, none⟩ y0).setCell ⟨g, 1, none⟩ y1).setCell ⟨g, 2, none⟩ y2).setCell ⟨g, 3, none⟩ y3).setCell ⟨g, 4, none⟩ y4).setCell ⟨g, 5, none⟩ y5).setCell ⟨g, 6, none⟩ y6).setCell ⟨g, 7, none⟩ y7).heap[g]? = some (.cells #[y0, y1, y2, y3, y4, y5, y6, y7, x8, x9] t (0, 0)) := by
  simpa using blk_set (blk_set (blk_set (blk_set (blk_set (blk_set (blk_set (blk_set (k) 0 y0) 1 y1) 2 y2) 3 y3) 4 y4) 5 y5) 6 y6) 7 y7
set_option maxRecDepth 100000 in
theorem add_e1 (x : Hs) (s : ByteArray) (w : World) (hr : rightH x = false) :
    Calls Tryd.prog 17 #[.agg (hsc x), .string s] w fun e w' => e = .returned (.tuple #[.agg (hsc zeroH), .int .i64 1]) ∧ Below w.heap.size w w' := by
  have HR := Lib.hid hr
  clear hr
  have hra := right_any x
  simp only [hsc] at hra ⊢
  have HRA := Lib.hid hra
  clear hra
  go_enter Tryd.func17, Tryd.ntmps17
  go_wp2_with (go_at_call 25; with_reducible refine (HRA.out _).mono ?_; rintro e W1 ⟨rfl, hb⟩; rw [HR.out]; have HB := Lib.hid hb; clear hb; have G1 := blk_same (heap_alloc2_new w _ _) HB.out; have z0 := (blk_cell G1 0).trans rfl; have y0 := blk_frozen G1 0; have z1 := (blk_cell G1 1).trans rfl; have y1 := blk_frozen G1 1; have z2 := (blk_cell G1 2).trans rfl; have y2 := blk_frozen G1 2; have z3 := (blk_cell G1 3).trans rfl; have y3 := blk_frozen G1 3; have z4 := (blk_cell G1 4).trans rfl; have y4 := blk_frozen G1 4; have z5 := (blk_cell G1 5).trans rfl; have y5 := blk_frozen G1 5; have z6 := (blk_cell G1 6).trans rfl; have y6 := blk_frozen G1 6; have z7 := (blk_cell G1 7).trans rfl; have y7 := blk_frozen G1 7; have z8 := (blk_cell G1 8).trans rfl; have y8 := blk_frozen G1 8; have z9 := (blk_cell G1 9).trans rfl; have y9 := blk_frozen G1 9; clear G1)
  generalize hX : World.setCell _ ⟨w.heap.size + 1, 9, none⟩ _ = X
  have XR : X.heap[w.heap.size + 1]? = some (.cells (hsc zeroH) 25 (0, 0)) := by rw [← hX]; exact put10 (blk_same (heap_alloc2_new w _ _) HB.out)
  have XG : Gb (w.heap.size + 1) W1 X := by rw [← hX]; exact gb_put10 _
  clear hX
  have b1 : Below w.heap.size w W1 := (below_alloc (below_alloc (Below.refl _ w) _) _).trans (HB.out.mono (by simp only [World.size_alloc]; omega))
  exact bodyPost_ret (XB.resultsX_list (rs := [.cell 4 25, .tmp 5]) (vs := [.agg (hsc zeroH), .int .i64 1]) rfl (by simp) (.cell (w.heap.size + 1) _ _ _ _ rfl XR Tryd.underlying25 rfl (by kernel_rfl) (.tmp .nil))) rfl ⟨rfl, b1.trans (gb_toBelow XG b1.size (by omega))⟩
set_option maxRecDepth 100000 in
theorem refadd_e1 (x : Hs) (s : ByteArray) (w : World) (hr : rightH x = false) :
    Calls Tryd.prog 19 #[.agg (hsc x), .string s] w fun e w' => e = .returned (.tuple #[.agg (hsc zeroH), .int .i64 1]) ∧ Below w.heap.size w w' := by
  have HR := Lib.hid hr
  clear hr
  have hra := refright_any x
  simp only [hsc] at hra ⊢
  have HRA := Lib.hid hra
  clear hra
  go_enter Tryd.func19, Tryd.ntmps19
  go_wp2_with (go_at_call 26; with_reducible refine (HRA.out _).mono ?_; rintro e W1 ⟨rfl, hb⟩; rw [HR.out]; have HB := Lib.hid hb; clear hb; have G1 := blk_same (heap_alloc2_new w _ _) HB.out; have z0 := (blk_cell G1 0).trans rfl; have y0 := blk_frozen G1 0; have z1 := (blk_cell G1 1).trans rfl; have y1 := blk_frozen G1 1; have z2 := (blk_cell G1 2).trans rfl; have y2 := blk_frozen G1 2; have z3 := (blk_cell G1 3).trans rfl; have y3 := blk_frozen G1 3; have z4 := (blk_cell G1 4).trans rfl; have y4 := blk_frozen G1 4; have z5 := (blk_cell G1 5).trans rfl; have y5 := blk_frozen G1 5; have z6 := (blk_cell G1 6).trans rfl; have y6 := blk_frozen G1 6; have z7 := (blk_cell G1 7).trans rfl; have y7 := blk_frozen G1 7; have z8 := (blk_cell G1 8).trans rfl; have y8 := blk_frozen G1 8; have z9 := (blk_cell G1 9).trans rfl; have y9 := blk_frozen G1 9; clear G1)
  generalize hX : World.setCell _ ⟨w.heap.size + 1, 9, none⟩ _ = X
  have XR : X.heap[w.heap.size + 1]? = some (.cells (hsc zeroH) 25 (0, 0)) := by rw [← hX]; exact put10 (blk_same (heap_alloc2_new w _ _) HB.out)
  have XG : Gb (w.heap.size + 1) W1 X := by rw [← hX]; exact gb_put10 _
  clear hX
  have b1 : Below w.heap.size w W1 := (below_alloc (below_alloc (Below.refl _ w) _) _).trans (HB.out.mono (by simp only [World.size_alloc]; omega))
  exact bodyPost_ret (XB.resultsX_list (rs := [.cell 4 25, .tmp 5]) (vs := [.agg (hsc zeroH), .int .i64 1]) rfl (by simp) (.cell (w.heap.size + 1) _ _ _ _ rfl XR Tryd.underlying25 rfl (by kernel_rfl) (.tmp .nil))) rfl ⟨rfl, b1.trans (gb_toBelow XG b1.size (by omega))⟩
set_option maxRecDepth 100000 in
theorem add_e2 (x : Hs) (s : ByteArray) (w : World) (hr : rightH x = true) (hl : 1048576 - x.many < (s.size : Int)) :
    Calls Tryd.prog 17 #[.agg (hsc x), .string s] w fun e w' => e = .returned (.tuple #[.agg (hsc zeroH), .int .i64 2]) ∧ Below w.heap.size w w' := by
  obtain ⟨m0, m1, _⟩ := (rightH_iff x).1 hr
  have HR := Lib.hid hr
  clear hr
  have hra := right_any x
  simp only [hsc] at hra ⊢
  have HRA := Lib.hid hra
  clear hra
  go_enter Tryd.func17, Tryd.ntmps17
  go_wp2_with (go_at_call 25; with_reducible refine (HRA.out _).mono ?_; rintro e W1 ⟨rfl, hb⟩; rw [HR.out]; have HB := Lib.hid hb; clear hb; have G1 := blk_same (heap_alloc2_new w _ _) HB.out; have G0 := blk_same (heap_alloc2_old w _ _) HB.out; have c9 := (blk_cell G0 9).trans rfl; clear G0; have z0 := (blk_cell G1 0).trans rfl; have y0 := blk_frozen G1 0; have z1 := (blk_cell G1 1).trans rfl; have y1 := blk_frozen G1 1; have z2 := (blk_cell G1 2).trans rfl; have y2 := blk_frozen G1 2; have z3 := (blk_cell G1 3).trans rfl; have y3 := blk_frozen G1 3; have z4 := (blk_cell G1 4).trans rfl; have y4 := blk_frozen G1 4; have z5 := (blk_cell G1 5).trans rfl; have y5 := blk_frozen G1 5; have z6 := (blk_cell G1 6).trans rfl; have y6 := blk_frozen G1 6; have z7 := (blk_cell G1 7).trans rfl; have y7 := blk_frozen G1 7; have z8 := (blk_cell G1 8).trans rfl; have y8 := blk_frozen G1 8; have z9 := (blk_cell G1 9).trans rfl; have y9 := blk_frozen G1 9; clear G1)
  generalize hX : World.setCell _ ⟨w.heap.size + 1, 9, none⟩ _ = X
  have XR : X.heap[w.heap.size + 1]? = some (.cells (hsc zeroH) 25 (0, 0)) := by rw [← hX]; exact put10 (blk_same (heap_alloc2_new w _ _) HB.out)
  have XG : Gb (w.heap.size + 1) W1 X := by rw [← hX]; exact gb_put10 _
  clear hX
  have b1 : Below w.heap.size w W1 := (below_alloc (below_alloc (Below.refl _ w) _) _).trans (HB.out.mono (by simp only [World.size_alloc]; omega))
  exact bodyPost_ret (XB.resultsX_list (rs := [.cell 4 25, .tmp 5]) (vs := [.agg (hsc zeroH), .int .i64 2]) rfl (by simp) (.cell (w.heap.size + 1) _ _ _ _ rfl XR Tryd.underlying25 rfl (by kernel_rfl) (.tmp .nil))) rfl ⟨rfl, b1.trans (gb_toBelow XG b1.size (by omega))⟩
set_option maxRecDepth 100000 in
theorem refadd_e2 (x : Hs) (s : ByteArray) (w : World) (hr : rightH x = true) (hl : 1048576 - x.many < (s.size : Int)) :
    Calls Tryd.prog 19 #[.agg (hsc x), .string s] w fun e w' => e = .returned (.tuple #[.agg (hsc zeroH), .int .i64 2]) ∧ Below w.heap.size w w' := by
  obtain ⟨m0, m1, _⟩ := (rightH_iff x).1 hr
  have HR := Lib.hid hr
  clear hr
  have hra := refright_any x
  simp only [hsc] at hra ⊢
  have HRA := Lib.hid hra
  clear hra
  go_enter Tryd.func19, Tryd.ntmps19
  go_wp2_with (go_at_call 26; with_reducible refine (HRA.out _).mono ?_; rintro e W1 ⟨rfl, hb⟩; rw [HR.out]; have HB := Lib.hid hb; clear hb; have G1 := blk_same (heap_alloc2_new w _ _) HB.out; have G0 := blk_same (heap_alloc2_old w _ _) HB.out; have c9 := (blk_cell G0 9).trans rfl; clear G0; have z0 := (blk_cell G1 0).trans rfl; have y0 := blk_frozen G1 0; have z1 := (blk_cell G1 1).trans rfl; have y1 := blk_frozen G1 1; have z2 := (blk_cell G1 2).trans rfl; have y2 := blk_frozen G1 2; have z3 := (blk_cell G1 3).trans rfl; have y3 := blk_frozen G1 3; have z4 := (blk_cell G1 4).trans rfl; have y4 := blk_frozen G1 4; have z5 := (blk_cell G1 5).trans rfl; have y5 := blk_frozen G1 5; have z6 := (blk_cell G1 6).trans rfl; have y6 := blk_frozen G1 6; have z7 := (blk_cell G1 7).trans rfl; have y7 := blk_frozen G1 7; have z8 := (blk_cell G1 8).trans rfl; have y8 := blk_frozen G1 8; have z9 := (blk_cell G1 9).trans rfl; have y9 := blk_frozen G1 9; clear G1)
  generalize hX : World.setCell _ ⟨w.heap.size + 1, 9, none⟩ _ = X
  have XR : X.heap[w.heap.size + 1]? = some (.cells (hsc zeroH) 25 (0, 0)) := by rw [← hX]; exact put10 (blk_same (heap_alloc2_new w _ _) HB.out)
  have XG : Gb (w.heap.size + 1) W1 X := by rw [← hX]; exact gb_put10 _
  clear hX
  have b1 : Below w.heap.size w W1 := (below_alloc (below_alloc (Below.refl _ w) _) _).trans (HB.out.mono (by simp only [World.size_alloc]; omega))
  exact bodyPost_ret (XB.resultsX_list (rs := [.cell 4 25, .tmp 5]) (vs := [.agg (hsc zeroH), .int .i64 2]) rfl (by simp) (.cell (w.heap.size + 1) _ _ _ _ rfl XR Tryd.underlying25 rfl (by kernel_rfl) (.tmp .nil))) rfl ⟨rfl, b1.trans (gb_toBelow XG b1.size (by omega))⟩
/-- What lies in a loop over a text's blocks. -/
def AInv (x : Hs) (t : ByteArray) (m : Int) (w : World) (k : Nat) (W : World) : Prop :=
  W.heap[w.heap.size]? = some (.cells (hsc ⟨many x.H t k, x.rest, m⟩) 25 (0, 0)) ∧ W.heap[w.heap.size + 1]? = some (.cells (hsc zeroH) 25 (0, 0)) ∧ Below w.heap.size w W
theorem ainv_own {n : Nat} (x : Hs) (t : ByteArray) (m : Int) (w : World) (k : Nat) (hn : w.heap.size ≤ n) : OwnW n (AInv x t m w k) :=
  .and (.blk _ _ _ _) (.and (.blk _ _ _ _) (fun W W' row h hg hr => h.grown hg h.size (fun k e => Nat.le_trans hn (hr k e).1)))
theorem ainv_tb {x : Hs} {t : ByteArray} {m : Int} {w : World} {k B bb : Nat} {X Y : World} (hI : AInv x t m w k X) (hb : w.heap.size + 1 < bb) (ht : Tb B bb X Y) : AInv x t m w k Y :=
  ⟨gb_same ht.1 hI.1 (by omega), gb_same ht.1 hI.2.1 (by omega), hI.2.2.trans (gb_toBelow ht.1 hI.2.2.size (by omega))⟩
theorem kb_trans {bb : Nat} {X Y Z : World} (h : Kb bb X Y) (k : Kb bb Y Z) : Kb bb X Z := fun cs t fr hb => k cs t fr (h cs t fr hb)
theorem kb_putObj {bb : Nat} (W : World) (l : Nat) (o o' : Obj) (hl : W.heap[l]? = some o) (ho : o.isCells = false) : Kb bb W (W.putObj l o') := fun cs t fr hb =>
  (World.putObj_heap_other (by rintro rfl; rw [hl] at hb; cases hb; cases ho)).trans hb
theorem kb_gb {bb g : Nat} {X Y : World} (h : Gb g X Y) (h2 : bb ≠ g) : Kb bb X Y := fun cs t fr hb => gb_same h hb h2
set_option maxRecDepth 100000 in
set_option maxHeartbeats 4000000 in
theorem add_ok (x : Hs) (s : ByteArray) (w : World) (hr : rightH x = true) (hl : (s.size : Int) ≤ 1048576 - x.many) (hG : Tbl w) :
    Calls Tryd.prog 17 #[.agg (hsc x), .string s] w fun e w' => e = .returned (.tuple #[.agg (hsc ⟨all x.H (x.rest ++ s), tailOf (x.rest ++ s), x.many + s.size⟩), .int .i64 0]) ∧ Below w.heap.size w w' := by
  obtain ⟨m0, m1, m2⟩ := (rightH_iff x).1 hr
  have hrs : x.rest.size < 64 := by omega
  have HR := Lib.hid hr
  have HM2 := Lib.hid m2
  have HG := Lib.hid hG
  clear hr m2 hG
  have hra := right_any x
  simp only [hsc] at hra ⊢
  have HRA := Lib.hid hra
  clear hra
  refine (callsIn_wide (n := 9)).1 (callsIn_of_wp_marks Tryd.func17 rfl trivial ?_ rfl)
  refine XB.QM_wp ?_
  simp only [Tryd.ntmps17, List.size_toArray, List.length_cons, List.length_nil, Nat.reduceAdd, Nat.reduceSub, Array.replicate_succ, Array.replicate_zero, List.push_toArray, List.append_toArray, List.nil_append, List.cons_append]
  go_wp2_with (go_at_call 25; with_reducible refine (HRA.out _).mono ?_; rintro e W1 ⟨rfl, hb⟩; rw [HR.out]; have HB := Lib.hid hb; clear hb; have HG0 := Lib.hid (blk_same (heap_alloc2_old w _ _) HB.out); have c9 := (blk_cell HG0.out 9).trans rfl)
  have d8 : ∀ p : XB.In (Below W1.heap.size W1), p.w.cell? ⟨w.heap.size, 8, none⟩ = some (.string x.rest) := fun p => (blk_cell (blk_same HG0.out p.h) 8).trans rfl
  have d9 : ∀ p : XB.In (Below W1.heap.size W1), p.w.cell? ⟨w.heap.size, 9, none⟩ = some (.int .i64 x.many) := fun p => (blk_cell (blk_same HG0.out p.h) 9).trans rfl
  have t1 : IntKind.i64.wrap (x.many + (s.size : Int)) = x.many + (s.size : Int) := IntWalk.i64_in _ (by omega)
  have t2 : ¬ 9223372036854775807 < x.rest.size + s.size := by omega
  haveI hne : Nonempty (XB.In (Below W1.heap.size W1)) := ⟨⟨W1.drew, below_drew1 (Below.refl _ _)⟩⟩
  refine XB.region_tail (fun w' => ∃ p : XB.In (Below W1.heap.size W1), w' = p.w) 11 (by kernel_rfl) (by kernel_rfl) ⟨⟨W1.drew, below_drew1 (Below.refl _ _)⟩, rfl⟩ ?_
  simp only [List.take_succ_cons, List.take_zero, List.drop_succ_cons, List.drop_zero]
  iterate 11 quiet_step (fail)
  refine wpQuiet_nil ?_
  rintro Y ⟨⟨_, hY⟩, rfl⟩
  have g0 := blk_same HG0.out hY
  have e9 := (blk_cell g0 9).trans rfl
  have f9 := blk_frozen g0 9
  have HG0' := Lib.hid g0
  have HY := Lib.hid hY
  clear hne d8 d9 t1 t2 g0 hY c9
  go_wp2_with (go_at_call 44; refine (blocks_calls _ _).mono ?_; rintro e w' ⟨rfl, rfl⟩)
  generalize hT : x.rest ++ s = T
  have hTs : T.size = x.rest.size + s.size := by rw [← hT, ByteArray.size_append]
  have HTS := Lib.hid hTs
  have HTE := Lib.hid hT
  have hTb : T.size ≤ 1099511627776 := by omega
  clear hT hTs
  have zW : w.heap.size + 1 < W1.heap.size := blk_lt (blk_same (heap_alloc2_new w _ _) HB.out)
  have z0 : w.heap.size + 1 < Y.heap.size := Nat.lt_of_lt_of_le (blk_lt (blk_same (heap_alloc2_new w _ _) HB.out)) HY.out.size
  have b1 : Below w.heap.size w Y := ((below_alloc (below_alloc (Below.refl _ w) _) _).trans (HB.out.mono (by simp only [World.size_alloc]; omega))).trans (HY.out.mono (by omega))
  generalize hW0 : World.alloc (World.setCell Y _ _) _ = W0
  have F0 : W0.heap[w.heap.size]? = some (.cells (hsc ⟨x.H, x.rest, x.many + s.size⟩) 25 (0, 0)) := by rw [← hW0]; exact blk_alloc (blk_set HG0'.out 9 _) _
  have F1 : W0.heap[w.heap.size + 1]? = some (.cells (hsc zeroH) 25 (0, 0)) := by rw [← hW0]; exact blk_alloc (gb_same (gb_set (g := w.heap.size) Y 9 _) (blk_same (blk_same (heap_alloc2_new w _ _) HB.out) HY.out) (by omega)) _
  have F2 : W0.heap[Y.heap.size]? = some (.cells #[.string T] 9 (0, 0)) := by rw [← hW0]; simpa using heap_alloc_new (Y.setCell ⟨w.heap.size, 9, none⟩ (.int .i64 (x.many + ↑s.size))) (.cells #[.string T] 9)
  have FB : Below w.heap.size w W0 := by rw [← hW0]; exact below_alloc (b1.trans ((Below.refl w.heap.size Y).setCell (p := ⟨w.heap.size, 9, none⟩) (Nat.le_refl _) _)) _
  have z1 : Y.heap.size < W0.heap.size := blk_lt F2
  clear hW0 b1
  refine XB.wp_range1 (n := 9) (by omega) (gf := 61) (lb := #[.pointer (some ⟨Y.heap.size, 0, none⟩)]) rfl (enters_of Tryd.func61 (by kernel_rfl) rfl) (fun k => .string (T.extract (64 * k) (64 * k + 64))) (T.size / 64) (blocks_seq 8 (by omega) T hTb W0.heap.size Y.heap.size) (XB.OwnW.blk _ _ _ _) F2 (fun _ _ h => h.2) kb_trans (fun W l o o' _ hl ho => kb_putObj W l o o' hl ho) (by simp)
    (AInv x T (x.many + s.size) w) (fun _ _ _ => False) (fun k => ainv_own x T _ w k FB.size) (fun _ _ => .pure _) (fun k _ _ hi ht => ainv_tb hi z0 ht) (fun _ _ _ _ h _ => h) ⟨F0, F1, FB⟩ ?body ?done ?stop
  case body =>
    rintro l k W ⟨G0, G1, GB⟩ hk
    have hsz : (T.extract (64 * k) (64 * k + 64)).size = 64 := by rw [ByteArray.size_extract]; omega
    have hc := compress_calls (many x.H T k) (T.extract (64 * k) (64 * k + 64)) W hsz (HG.out.below GB)
    have hstep : many x.H T (k + 1) = comp (many x.H T k) (T.extract (64 * k) (64 * k + 64)) := rfl
    generalize many x.H T k = v at *
    generalize T.extract (64 * k) (64 * k + 64) = blk at *
    unfold hsc at G0
    simp only [s8c] at hc
    have c0 := (blk_cell G0 0).trans rfl
    have c1 := (blk_cell G0 1).trans rfl
    have c2 := (blk_cell G0 2).trans rfl
    have c3 := (blk_cell G0 3).trans rfl
    have c4 := (blk_cell G0 4).trans rfl
    have c5 := (blk_cell G0 5).trans rfl
    have c6 := (blk_cell G0 6).trans rfl
    have c7 := (blk_cell G0 7).trans rfl
    have HC := Lib.hid hc
    have HSTEP := Lib.hid hstep
    have HG0 := Lib.hid G0
    have HG1 := Lib.hid G1
    have HGB := Lib.hid GB
    clear hc hstep G0 G1 GB hsz
    gi_wp2_with fail
    refine ⟨trivial, ?_⟩
    refine (CallsIn.inRound l (callsIn_wide.2 HC.out)).mono ?_
    rintro e W2 ⟨rfl, hb⟩
    have g2 := blk_same HG0.out hb
    have e0 := (blk_cell g2 0).trans rfl
    have f0 := blk_frozen g2 0
    have e1 := (blk_cell g2 1).trans rfl
    have f1 := blk_frozen g2 1
    have e2 := (blk_cell g2 2).trans rfl
    have f2 := blk_frozen g2 2
    have e3 := (blk_cell g2 3).trans rfl
    have f3 := blk_frozen g2 3
    have e4 := (blk_cell g2 4).trans rfl
    have f4 := blk_frozen g2 4
    have e5 := (blk_cell g2 5).trans rfl
    have f5 := blk_frozen g2 5
    have e6 := (blk_cell g2 6).trans rfl
    have f6 := blk_frozen g2 6
    have e7 := (blk_cell g2 7).trans rfl
    have f7 := blk_frozen g2 7
    have HG2 := Lib.hid g2
    have HB2 := Lib.hid hb
    clear g2 hb c0 c1 c2 c3 c4 c5 c6 c7
    gi_wp2
    generalize hX : World.setCell _ ⟨w.heap.size, 7, none⟩ _ = X
    have XG : Gb w.heap.size W X := by rw [← hX]; exact gb_trans (gb_below _ HB2.out) (gb_put8 _)
    have XV : X.heap[w.heap.size]? = some (.cells (hsc ⟨many x.H T (k + 1), x.rest, x.many + s.size⟩) 25 (0, 0)) := by rw [← hX, HSTEP.out]; exact put8of10 HG2.out
    clear hX
    exact ⟨gb_keeps XG HG0.out, kb_gb XG (by omega), XV, gb_same XG HG1.out (by omega), HGB.out.trans (gb_toBelow XG HGB.out.size (Nat.le_refl _))⟩
  case done =>
    rintro D W hD ⟨G0, G1, GB⟩ hDD
    rename_i K_ hK_
    refine hK_ _ _ ?_
    clear hK_
    have hall : many x.H T (T.size / 64) = all x.H T := rfl
    rw [hall] at G0
    generalize hve : all x.H T = v at *
    have HVE := Lib.hid hve
    clear hve
    have n1 : (T.size : Int) % 64 ≤ (T.size : Int) := by omega
    have n2 : 0 ≤ (T.size : Int) - (T.size : Int) % 64 := by omega
    have n3 : (T.size : Int) - (T.size : Int) % 64 ≤ (T.size : Int) := by omega
    have n4 : ((T.size : Int) - (T.size : Int) % 64).toNat = T.size - T.size % 64 := by omega
    unfold hsc at G0 G1
    have c0 := (blk_cell G0 0).trans rfl
    have c1 := (blk_cell G0 1).trans rfl
    have c2 := (blk_cell G0 2).trans rfl
    have c3 := (blk_cell G0 3).trans rfl
    have c4 := (blk_cell G0 4).trans rfl
    have c5 := (blk_cell G0 5).trans rfl
    have c6 := (blk_cell G0 6).trans rfl
    have c7 := (blk_cell G0 7).trans rfl
    have c8 := (blk_cell G0 8).trans rfl
    have c9 := (blk_cell G0 9).trans rfl
    have f8 := blk_frozen G0 8
    have y0 := (blk_cell G1 0).trans rfl
    have x0 := blk_frozen G1 0
    have y1 := (blk_cell G1 1).trans rfl
    have x1 := blk_frozen G1 1
    have y2 := (blk_cell G1 2).trans rfl
    have x2 := blk_frozen G1 2
    have y3 := (blk_cell G1 3).trans rfl
    have x3 := blk_frozen G1 3
    have y4 := (blk_cell G1 4).trans rfl
    have x4 := blk_frozen G1 4
    have y5 := (blk_cell G1 5).trans rfl
    have x5 := blk_frozen G1 5
    have y6 := (blk_cell G1 6).trans rfl
    have x6 := blk_frozen G1 6
    have y7 := (blk_cell G1 7).trans rfl
    have x7 := blk_frozen G1 7
    have y8 := (blk_cell G1 8).trans rfl
    have x8 := blk_frozen G1 8
    have y9 := (blk_cell G1 9).trans rfl
    have x9 := blk_frozen G1 9
    have HG0 := Lib.hid G0
    have HG1 := Lib.hid G1
    have HGB := Lib.hid GB
    have HDD := Lib.hid hDD
    clear G0 G1 GB hDD hall
    go_wp2
    generalize hX : World.setCell _ ⟨w.heap.size + 1, 9, none⟩ _ = X
    have XG8 : Gb w.heap.size W (W.setCell ⟨w.heap.size, 8, none⟩ (.string (T.extract (T.size - T.size % 64) T.size))) := gb_set _ _ _
    have XR : X.heap[w.heap.size + 1]? = some (.cells (hsc ⟨v, tailOf T, x.many + s.size⟩) 25 (0, 0)) := by rw [← hX]; exact put10 (gb_same XG8 HG1.out (by omega))
    have XG : Gb (w.heap.size + 1) (W.setCell ⟨w.heap.size, 8, none⟩ (.string (T.extract (T.size - T.size % 64) T.size))) X := by rw [← hX]; exact gb_put10 _
    have XBl : Below w.heap.size w X := (HGB.out.trans (gb_toBelow XG8 HGB.out.size (Nat.le_refl _))).trans (gb_toBelow XG (Nat.le_trans HGB.out.size XG8.size) (by omega))
    have XD : X.heap[D]? = some (.deferred (some [])) := gb_same XG (gb_same XG8 HDD.out (by omega)) (by omega)
    have XP := (XB.OwnW.blk (B := W0.heap.size) _ _ _ _).putObj (.deferred none) XR hD XD rfl
    clear hX
    refine XB.QM_ret (.inl rfl) XD (XB.resultsX_list (rs := [.cell 4 25, .tmp 5]) (vs := [.agg (hsc ⟨v, tailOf T, x.many + s.size⟩), .int .i64 0]) rfl (by simp) (.cell (w.heap.size + 1) _ _ _ _ rfl XP Tryd.underlying25 rfl (by kernel_rfl) (.tmp .nil))) ⟨?_, (XB.OwnW.below (Nat.le_refl _) FB.size).putObj _ XBl hD XD rfl⟩
    rw [HTE.out, HVE.out]
    rfl
  case stop => exact fun _ _ _ _ _ _ h => h.elim
set_option maxRecDepth 100000 in
set_option maxHeartbeats 4000000 in
theorem refadd_ok (x : Hs) (s : ByteArray) (w : World) (hr : rightH x = true) (hl : (s.size : Int) ≤ 1048576 - x.many) :
    Calls Tryd.prog 19 #[.agg (hsc x), .string s] w fun e w' => e = .returned (.tuple #[.agg (hsc ⟨all x.H (x.rest ++ s), tailOf (x.rest ++ s), x.many + s.size⟩), .int .i64 0]) ∧ Below w.heap.size w w' := by
  obtain ⟨m0, m1, m2⟩ := (rightH_iff x).1 hr
  have hrs : x.rest.size < 64 := by omega
  have HR := Lib.hid hr
  have HM2 := Lib.hid m2
  clear hr m2
  have hra := refright_any x
  simp only [hsc] at hra ⊢
  have HRA := Lib.hid hra
  clear hra
  have t2 : ¬ 9223372036854775807 < x.rest.size + s.size := by omega
  go_enter Tryd.func19, Tryd.ntmps19
  go_wp2_with (go_at_call 26; with_reducible refine (HRA.out _).mono ?_; rintro e W1 ⟨rfl, hb⟩; rw [HR.out]; have HB := Lib.hid hb; clear hb; have HG0 := Lib.hid (blk_same (heap_alloc2_old w _ _) HB.out); have c0 := (blk_cell HG0.out 0).trans rfl; have c1 := (blk_cell HG0.out 1).trans rfl; have c2 := (blk_cell HG0.out 2).trans rfl; have c3 := (blk_cell HG0.out 3).trans rfl; have c4 := (blk_cell HG0.out 4).trans rfl; have c5 := (blk_cell HG0.out 5).trans rfl; have c6 := (blk_cell HG0.out 6).trans rfl; have c7 := (blk_cell HG0.out 7).trans rfl; have c8 := (blk_cell HG0.out 8).trans rfl; have c9 := (blk_cell HG0.out 9).trans rfl)
  generalize hT : x.rest ++ s = T
  have hTs : T.size = x.rest.size + s.size := by rw [← hT, ByteArray.size_append]
  have HTS := Lib.hid hTs
  have HTE := Lib.hid hT
  have hTb : T.size ≤ 1099511627776 := by omega
  clear hT hTs t2
  have zW : w.heap.size + 1 < W1.heap.size := blk_lt (blk_same (heap_alloc2_new w _ _) HB.out)
  have b1 : Below w.heap.size w W1 := (below_alloc (below_alloc (Below.refl _ w) _) _).trans (HB.out.mono (by simp only [World.size_alloc]; omega))
  generalize hW0 : World.alloc W1 _ = W0
  have FV : W0.heap[W1.heap.size]? = some (.cells (s8c x.H) 23 (0, 0)) := by rw [← hW0]; exact heap_alloc_new W1 _
  have F0 : W0.heap[w.heap.size]? = some (.cells (hsc x) 25 (0, 0)) := by rw [← hW0]; exact blk_alloc HG0.out _
  have F1 : W0.heap[w.heap.size + 1]? = some (.cells (hsc zeroH) 25 (0, 0)) := by rw [← hW0]; exact blk_alloc (blk_same (heap_alloc2_new w _ _) HB.out) _
  have FB : Below w.heap.size w W0 := by rw [← hW0]; exact below_alloc b1 _
  have HF0 := Lib.hid F0
  have HF1 := Lib.hid F1
  have HFV := Lib.hid FV
  have HFB := Lib.hid FB
  clear hW0 F0 F1 FV FB b1 c0 c1 c2 c3 c4 c5 c6 c7 c8 c9 HG0 HB
  go_loopw [8] (fun v X => ∃ k : Nat, 64 * k ≤ T.size ∧ v = .int .i64 ((64 * k : Nat) : Int) ∧ X.heap[W1.heap.size]? = some (.cells (s8c (many x.H T k)) 23 (0, 0)) ∧ Gb W1.heap.size W0 X)
    (fun v _ => T.size - (intOf v).toNat)
  case atStart => exact ⟨0, by omega, rfl, HFV.out, gb_refl _ _⟩
  case round =>
    obtain ⟨k, hk, rfl, hV, hX⟩ := hrel
    by_cases hlt : 64 * k + 64 ≤ T.size
    · have hsz : (T.extract (64 * k) (64 * k + 64)).size = 64 := by rw [ByteArray.size_extract]; omega
      have hc := fun X => refcompress_calls (many x.H T k) (T.extract (64 * k) (64 * k + 64)) X hsz
      have hstep : many x.H T (k + 1) = comp (many x.H T k) (T.extract (64 * k) (64 * k + 64)) := rfl
      have HSTEP := Lib.hid hstep
      clear hstep
      generalize many x.H T k = v at *
      unfold s8c at hV
      simp only [s8c] at hc
      have HC := Lib.hid hc
      have i1 : ((64 * k : Nat) : Int) + 64 ≤ (T.size : Int) := by omega
      have i2 : 0 ≤ ((64 * k : Nat) : Int) := by omega
      have i3 : ((64 * k : Nat) : Int) ≤ ((64 * k : Nat) : Int) + 64 := by omega
      have i4 : 0 ≤ ((64 * k : Nat) : Int) + 64 := by omega
      have i5 : (((64 * k : Nat) : Int) + 64).toNat = 64 * k + 64 := by omega
      have i6 : IntKind.i64.wrap (((64 * k : Nat) : Int) + 64) = ((64 * k : Nat) : Int) + 64 := IntWalk.i64_in _ (by omega)
      have c0 := (blk_cell hV 0).trans rfl
      have c1 := (blk_cell hV 1).trans rfl
      have c2 := (blk_cell hV 2).trans rfl
      have c3 := (blk_cell hV 3).trans rfl
      have c4 := (blk_cell hV 4).trans rfl
      have c5 := (blk_cell hV 5).trans rfl
      have c6 := (blk_cell hV 6).trans rfl
      have c7 := (blk_cell hV 7).trans rfl
      have HV := Lib.hid hV
      have HX := Lib.hid hX
      clear hc hV hX hsz
      generalize hat : 64 * k = at_ at *
      have HAT := Lib.hid hat
      clear hat
      go_wp2
      go_region_with ((go_at_call 16; refine (HC.out _).mono ?_; rintro e Y ⟨rfl, hY⟩; have HY := Lib.hid (show Below wr.heap.size wr Y from (below_drew1 (Below.refl wr.heap.size wr)).trans hY); clear hY; have HG2 := Lib.hid (blk_same HV.out HY.out); have e0 := (blk_cell HG2.out 0).trans rfl; have f0 := blk_frozen HG2.out 0; have e1 := (blk_cell HG2.out 1).trans rfl; have f1 := blk_frozen HG2.out 1; have e2 := (blk_cell HG2.out 2).trans rfl; have f2 := blk_frozen HG2.out 2; have e3 := (blk_cell HG2.out 3).trans rfl; have f3 := blk_frozen HG2.out 3; have e4 := (blk_cell HG2.out 4).trans rfl; have f4 := blk_frozen HG2.out 4; have e5 := (blk_cell HG2.out 5).trans rfl; have f5 := blk_frozen HG2.out 5; have e6 := (blk_cell HG2.out 6).trans rfl; have f6 := blk_frozen HG2.out 6; have e7 := (blk_cell HG2.out 7).trans rfl; have f7 := blk_frozen HG2.out 7; clear c0 c1 c2 c3 c4 c5 c6 c7))
      all_goals
        go_wp2
        generalize hZ : World.setCell _ ⟨W1.heap.size, 7, none⟩ _ = Z
        have ZV : Z.heap[W1.heap.size]? = some (.cells (s8c (many x.H T (k + 1))) 23 (0, 0)) := by rw [← hZ, HSTEP.out]; exact put8 HG2.out
        have ZG : Gb W1.heap.size Y Z := by rw [← hZ]; exact gb_put8 _
        clear hZ
        go_roundw
        case rel => exact ⟨k + 1, by have := HAT.out; omega, by rw [← HAT.out]; exact congrArg (Value.int .i64) (by omega), ZV, gb_trans HX.out (gb_trans (gb_below _ HY.out) ZG)⟩
        case measure => simp [intOf]; omega
    · have hkk : k = T.size / 64 := by omega
      have hall : many x.H T k = all x.H T := by rw [hkk]; rfl
      rw [hall] at hV
      have hat : 64 * k = T.size - T.size % 64 := by omega
      rw [hat]
      generalize hve : all x.H T = v at *
      have HVE := Lib.hid hve
      clear hve hall hkk hat hk
      unfold s8c at hV
      have i0 : ¬ (((T.size - T.size % 64 : Nat) : Int) + 64 ≤ (T.size : Int)) := by omega
      have i2 : 0 ≤ ((T.size - T.size % 64 : Nat) : Int) := by omega
      have i3 : ((T.size - T.size % 64 : Nat) : Int) ≤ (T.size : Int) := by omega
      have d0 : ∀ p : XB.In (Below wr.heap.size wr), p.w.cell? ⟨W1.heap.size, 0, none⟩ = some (.int .u32 (u v.a)) := fun p => (blk_cell (blk_same hV p.h) 0).trans rfl
      have d1 : ∀ p : XB.In (Below wr.heap.size wr), p.w.cell? ⟨W1.heap.size, 1, none⟩ = some (.int .u32 (u v.b)) := fun p => (blk_cell (blk_same hV p.h) 1).trans rfl
      have d2 : ∀ p : XB.In (Below wr.heap.size wr), p.w.cell? ⟨W1.heap.size, 2, none⟩ = some (.int .u32 (u v.c)) := fun p => (blk_cell (blk_same hV p.h) 2).trans rfl
      have d3 : ∀ p : XB.In (Below wr.heap.size wr), p.w.cell? ⟨W1.heap.size, 3, none⟩ = some (.int .u32 (u v.d)) := fun p => (blk_cell (blk_same hV p.h) 3).trans rfl
      have d4 : ∀ p : XB.In (Below wr.heap.size wr), p.w.cell? ⟨W1.heap.size, 4, none⟩ = some (.int .u32 (u v.e)) := fun p => (blk_cell (blk_same hV p.h) 4).trans rfl
      have d5 : ∀ p : XB.In (Below wr.heap.size wr), p.w.cell? ⟨W1.heap.size, 5, none⟩ = some (.int .u32 (u v.f)) := fun p => (blk_cell (blk_same hV p.h) 5).trans rfl
      have d6 : ∀ p : XB.In (Below wr.heap.size wr), p.w.cell? ⟨W1.heap.size, 6, none⟩ = some (.int .u32 (u v.g)) := fun p => (blk_cell (blk_same hV p.h) 6).trans rfl
      have d7 : ∀ p : XB.In (Below wr.heap.size wr), p.w.cell? ⟨W1.heap.size, 7, none⟩ = some (.int .u32 (u v.h)) := fun p => (blk_cell (blk_same hV p.h) 7).trans rfl
      have g0 := gb_same hX HF0.out (by omega)
      have d9 : ∀ p : XB.In (Below wr.heap.size wr), p.w.cell? ⟨w.heap.size, 9, none⟩ = some (.int .i64 x.many) := fun p => (blk_cell (blk_same g0 p.h) 9).trans rfl
      have t1 : IntKind.i64.wrap (x.many + (s.size : Int)) = x.many + (s.size : Int) := IntWalk.i64_in _ (by omega)
      have HX := Lib.hid hX
      clear hV hX g0
      generalize hat : T.size - T.size % 64 = at_ at *
      have HAT := Lib.hid hat
      clear hat
      go_wp2
      haveI hne : Nonempty (XB.In (Below wr.heap.size wr)) := ⟨⟨wr.drew, below_drew1 (Below.refl _ _)⟩⟩
      refine XB.region_tail (fun w' => ∃ p : XB.In (Below wr.heap.size wr), w' = p.w) 10 (by kernel_rfl) (by kernel_rfl) ⟨⟨wr.drew, below_drew1 (Below.refl _ _)⟩, rfl⟩ ?_
      simp only [List.take_succ_cons, List.take_zero, List.drop_succ_cons, List.drop_zero]
      iterate 10 quiet_step (fail)
      refine wpQuiet_nil ?_
      rintro Y ⟨⟨_, hY⟩, rfl⟩
      have g1 := blk_same (gb_same HX.out HF1.out (by omega)) hY
      unfold hsc at g1
      have e0 := (blk_cell g1 0).trans rfl
      have f0 := blk_frozen g1 0
      have e1 := (blk_cell g1 1).trans rfl
      have f1 := blk_frozen g1 1
      have e2 := (blk_cell g1 2).trans rfl
      have f2 := blk_frozen g1 2
      have e3 := (blk_cell g1 3).trans rfl
      have f3 := blk_frozen g1 3
      have e4 := (blk_cell g1 4).trans rfl
      have f4 := blk_frozen g1 4
      have e5 := (blk_cell g1 5).trans rfl
      have f5 := blk_frozen g1 5
      have e6 := (blk_cell g1 6).trans rfl
      have f6 := blk_frozen g1 6
      have e7 := (blk_cell g1 7).trans rfl
      have f7 := blk_frozen g1 7
      have e8 := (blk_cell g1 8).trans rfl
      have f8 := blk_frozen g1 8
      have e9 := (blk_cell g1 9).trans rfl
      have f9 := blk_frozen g1 9
      have HG1 := Lib.hid g1
      have HY := Lib.hid hY
      clear hne d0 d1 d2 d3 d4 d5 d6 d7 d9 g1 hY t1
      go_wp2
      generalize hZ : World.setCell _ ⟨w.heap.size + 1, 9, none⟩ _ = Z
      have htl : tailOf T = T.extract at_ T.size := by rw [← HAT.out]; rfl
      have XR : Z.heap[w.heap.size + 1]? = some (.cells (hsc ⟨v, tailOf T, x.many + s.size⟩) 25 (0, 0)) := by rw [← hZ, htl]; exact put10 HG1.out
      have XG : Gb (w.heap.size + 1) Y Z := by rw [← hZ]; exact gb_put10 _
      have q1 : Below w.heap.size w wr := HFB.out.trans (gb_toBelow HX.out HFB.out.size (by omega))
      have q2 : Below w.heap.size w Y := q1.trans (HY.out.mono q1.size)
      have XBl : Below w.heap.size w Z := q2.trans (gb_toBelow XG q2.size (by omega))
      clear hZ
      refine bodyPost_ret (XB.resultsX_list (rs := [.cell 4 25, .tmp 5]) (vs := [.agg (hsc ⟨v, tailOf T, x.many + s.size⟩), .int .i64 0]) rfl (by simp) (.cell (w.heap.size + 1) _ _ _ _ rfl XR Tryd.underlying25 rfl (by kernel_rfl) (.tmp .nil))) rfl ⟨?_, XBl⟩
      rw [HTE.out, HVE.out]
      rfl
theorem add_calls (x : Hs) (s : ByteArray) (w : World) (hG : Tbl w) :
    Calls Tryd.prog 17 #[.agg (hsc x), .string s] w fun e w' => e = .returned (.tuple #[.agg (hsc (addH x s).1), .int .i64 (addH x s).2]) ∧ Below w.heap.size w w' := by
  unfold addH
  by_cases hr : rightH x = true
  · rw [if_pos hr]
    by_cases hl : 1048576 - x.many < (s.size : Int)
    · rw [if_pos hl]; exact add_e2 x s w hr hl
    · rw [if_neg hl]; exact add_ok x s w hr (by omega) hG
  · rw [if_neg hr]; exact add_e1 x s w (by simpa using hr)
theorem refadd_calls (x : Hs) (s : ByteArray) (w : World) :
    Calls Tryd.prog 19 #[.agg (hsc x), .string s] w fun e w' => e = .returned (.tuple #[.agg (hsc (addH x s).1), .int .i64 (addH x s).2]) ∧ Below w.heap.size w w' := by
  unfold addH
  by_cases hr : rightH x = true
  · rw [if_pos hr]
    by_cases hl : 1048576 - x.many < (s.size : Int)
    · rw [if_pos hl]; exact refadd_e2 x s w hr hl
    · rw [if_neg hl]; exact refadd_ok x s w hr (by omega)
  · rw [if_neg hr]; exact refadd_e1 x s w (by simpa using hr)
end Go.Proofs.YtajaobebcmlhaaaDoor.Pr
