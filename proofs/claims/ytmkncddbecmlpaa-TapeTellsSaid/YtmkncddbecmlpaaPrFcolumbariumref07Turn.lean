-- Written by wip/tools/xprint.py, a patched run of the kit's print: not typed by hand.
import Derived.Test.YtmkncddbecmlpaaPr0
import Derived.Test.YtmkncddbecmlpaaPrFcolumbariumref07Number
import Derived.Test.YtmkncddbecmlpaaPrFcolumbariumref07Right
namespace Go.Proofs.Ytmkncddbecmlpaa.Pr
open Go.RowKit Go.Proofs.YtmkncddbecmlpaaW.PrintWords Go.Proofs.YtmkncddbecmlpaaW.PrintLast Go.Proofs.YtmkncddbecmlpaaW.PrintMore
attribute [local go_sem] max2_int min2_int max_two min_two max_three min_three max_four min_four   -- for this text's walks alone
set_option linter.unusedVariables false
set_option linter.unusedSimpArgs false

/-! ### columbariumref07_Turn: function 26 -/
def columbariumref07_Turn.l0 : Nat → List Int → Int → ByteArray → Int → ByteArray → Int → Option (List Int × ByteArray × Int × Int)
 | 0, _, _, _, _, _, _ => none
 | k + 1, x7, x9, x260002000, x260002001, x260008000, x260008001 => if x9 ≥ 1 then ((columbariumref07_Number.f k x260008000 x260008001 (wrap64 (x9 + 1))).bind fun bt260008 => (if bt260008.2.2.2 = 0 then (if 0 ≤ bt260008.1 then (if bt260008.1 < (x7.length : Int) then (if 0 ≤ x9 then (if x9 < (x7.length : Int) then (columbariumref07_Turn.l0 k ((x7.set (bt260008.1 : Int).toNat (rd x7 x9)).set (x9 : Int).toNat (rd x7 bt260008.1)) (wrap64 (x9 - 1)) x260002000 x260002001 bt260008.2.1 bt260008.2.2.1) else (none)) else (none)) else (none)) else (none)) else (some (([] : List Int), x260002000, x260002001, bt260008.2.2.2)))) else (some (x7, x260008000, x260008001, 0))
def columbariumref07_Turn.f (k : Nat) (a0_0 : ByteArray) (a0_1 : Int) (l1 : List Int) : Option (List Int × ByteArray × Int × Int) := (columbariumref07_Right.f a0_0 a0_1).bind fun t260003 => (if t260003 = true then (if (l1.length : Int) > 1000 then (some (([] : List Int), a0_0, a0_1, 2)) else (if ([] : List Int).length + l1.length < 17592186044416 then (columbariumref07_Turn.l0 k (([] : List Int) ++ l1) (wrap64 ((l1.length : Int) - 1)) a0_0 a0_1 a0_0 a0_1) else (none))) else (some (([] : List Int), a0_0, a0_1, 1)))
theorem columbariumref07_Turn.mono_l : ∀ k, (∀ y0 y1 y2 y3 y4 y5, LeO (columbariumref07_Turn.l0 k y0 y1 y2 y3 y4 y5) (columbariumref07_Turn.l0 (k + 1) y0 y1 y2 y3 y4 y5))
 | 0 => fun _ _ _ _ _ _ r h => by simp [columbariumref07_Turn.l0] at h
 | k + 1 => by
  have ih0 := columbariumref07_Turn.mono_l k
  ·intro y0 y1 y2 y3 y4 y5
   unfold columbariumref07_Turn.l0
   repeat' first
   | (with_reducible exact ih0 _ _ _ _ _ _)
   | (with_reducible exact columbariumref07_Number.mono _ _ _ _)
   | (with_reducible exact LeO.refl _)
   | (with_reducible exact LeO.none _)
   | (with_reducible refine LeO.ite ?_ ?_)
   | (with_reducible refine LeO.bind ?_ (fun _ => ?_))
   | exact ih0 _ _ _ _ _ _
   | exact columbariumref07_Number.mono _ _ _ _
   | exact LeO.none _
   | refine LeO.ite ?_ ?_
   | refine LeO.bind ?_ (fun _ => ?_)
theorem columbariumref07_Turn.mono : ∀ a0 a1 a2 k, LeO (columbariumref07_Turn.f k a0 a1 a2) (columbariumref07_Turn.f (k + 1) a0 a1 a2) := by
 intro a0 a1 a2 k
 have ih0 := columbariumref07_Turn.mono_l k
 unfold columbariumref07_Turn.f
 repeat' first
   | (with_reducible exact ih0 _ _ _ _ _ _)
   | (with_reducible exact columbariumref07_Number.mono _ _ _ _)
   | (with_reducible exact LeO.refl _)
   | (with_reducible exact LeO.none _)
   | (with_reducible refine LeO.ite ?_ ?_)
   | (with_reducible refine LeO.bind ?_ (fun _ => ?_))
   | exact ih0 _ _ _ _ _ _
   | exact columbariumref07_Number.mono _ _ _ _
   | exact LeO.none _
   | refine LeO.ite ?_ ?_
   | refine LeO.bind ?_ (fun _ => ?_)
set_option maxHeartbeats 8000000 in
set_option maxRecDepth 100000 in
theorem columbariumref07_Turn.calls (k : Nat) (a0_0 : ByteArray) (a0_1 : Int) (A1 : Option Addr) (c1 : Nat) (l1 : List Int) (r1 : List Int) (r2 : ByteArray) (r3 : Int) (r4 : Int) (w : World) (hr1 : Kd.C (Kd.int .i64) w A1 l1.length l1) (hc1 : l1.length ≤ c1) (h : columbariumref07_Turn.f k a0_0 a0_1 l1 = some (r1, r2, r3, r4)) :
  Calls Try.prog 26 #[.agg #[.string a0_0, .int .i64 a0_1], .slice A1 l1.length c1] w fun e w' => ∃ v0_ : Value, e = .returned (.tuple #[v0_, .agg #[.string r2, .int .i64 r3], .int .i64 r4]) ∧ Kd.R (Kd.int .i64) 3 w' w.heap.size (fun _ => True) v0_ r1 ∧ Below w.heap.size w w' := by
 have hu23 := Try.underlying23
 have HR1 := Aside0.mk hr1
 have HC1 := Aside0.mk hc1
 clear hr1 hc1
 have HB := Aside0.mk (Below.refl w.heap.size w)
 have H : ((columbariumref07_Right.f a0_0 a0_1).bind fun t260003 => (if t260003 = true then (if (l1.length : Int) > 1000 then (some (([] : List Int), a0_0, a0_1, 2)) else (if ([] : List Int).length + l1.length < 17592186044416 then (columbariumref07_Turn.l0 k (([] : List Int) ++ l1) (wrap64 ((l1.length : Int) - 1)) a0_0 a0_1 a0_0 a0_1) else (none))) else (some (([] : List Int), a0_0, a0_1, 1)))) = some (r1, r2, r3, r4) := h
 clear h
 replace H := Option.bind_eq_some_iff.mp H
 obtain ⟨t260003, A30, H⟩ := H
 replace H : (if t260003 = true then (if (l1.length : Int) > 1000 then (some (([] : List Int), a0_0, a0_1, 2)) else (if ([] : List Int).length + l1.length < 17592186044416 then (columbariumref07_Turn.l0 k (([] : List Int) ++ l1) (wrap64 ((l1.length : Int) - 1)) a0_0 a0_1 a0_0 a0_1) else (none))) else (some (([] : List Int), a0_0, a0_1, 1))) = some (r1, r2, r3, r4) := H
 have A3 := Aside0.mk A30
 clear A30
 by_cases c4 : t260003 = true
 ·subst c4
  have H1 : (if (l1.length : Int) > 1000 then (some (([] : List Int), a0_0, a0_1, 2)) else (if ([] : List Int).length + l1.length < 17592186044416 then (columbariumref07_Turn.l0 k (([] : List Int) ++ l1) (wrap64 ((l1.length : Int) - 1)) a0_0 a0_1 a0_0 a0_1) else (none))) = some (r1, r2, r3, r4) := by rw [if_pos rfl] at H; exact H
  clear H
  have H := H1
  clear H1
  by_cases c5 : (l1.length : Int) > 1000
  ·rw [if_pos c5] at H
   have c5b0 : decide (1000 < (l1.length : Int)) = true := decide_eq_true c5
   have c5b1 : decide (1000 < l1.length) = true := decide_eq_true (by omega)
   clear c5
   simp only [Option.some.injEq, Prod.mk.injEq] at H
   obtain ⟨rfl, rfl, rfl, rfl⟩ := H
   go_enter Try.func26, Try.ntmps26
   try go_wp2_with (first | ((with_reducible refine gate_dst (N := 2) rfl ?_); refine box_event ?hg (N := 2) ?hd (cs := #[.string a0_0, .int .i64 a0_1]) (t := 23) ?hr ?_; (case hd => rfl); (case hg => rfl); (case hr => first | (go_simp; done) | (go_simp; rfl)); intro gb260001 hg w6 hbox hb; have n0_ := Aside0.mk (below_step (by repeat (first | (with_reducible first | exact HB.out | apply below_alloc | apply pw_below_drewN | apply below_drew1) | exact HB.out)) hb); have n1_ := Aside0.mk (hbox); have n2_ := Aside0.mk ((by rw [hg]; exact (below_size (by repeat (first | (with_reducible first | exact HB.out | apply below_alloc | apply pw_below_drewN | apply below_drew1) | exact HB.out))) : w.heap.size ≤ gb260001)); have n3_ := Aside0.mk ((by rw [hg]; exact (below_size (by repeat (first | (with_reducible first | exact HB.out | apply below_alloc | apply pw_below_drewN | apply below_drew1) | exact HB.out))) : w.heap.size ≤ gb260001)); clear HB; have HB := n0_; have BK260001 := n1_; have GW260001 := n2_; have GE260001 := n3_; clear n0_ n1_ n2_ n3_; clear hb hbox hg) | ((with_reducible refine gate_dst (N := 5) rfl ?_); refine box_event ?hg (N := 5) ?hd (cs := #[.string (⟨#[]⟩ : ByteArray), .int .i64 0]) (t := 23) ?hr ?_; (case hd => rfl); (case hg => rfl); (case hr => first | (go_simp; done) | (go_simp; rfl)); intro gb260002 hg w7 hbox hb; have n0_ := Aside0.mk (blk_below (g := gb260001) (o := .cells #[.string a0_0, .int .i64 a0_1] 23 (0, 0)) (by (with_reducible repeat (first | refine blk_drewN ?_ _ | refine blk_drew ?_ | refine blk_alloc ?_ _)); exact BK260001.out) hb); have n1_ := Aside0.mk (below_step (by repeat (first | (with_reducible first | exact HB.out | apply below_alloc | apply pw_below_drewN | apply below_drew1 | refine below_set ?_ GE260001.out) | exact HB.out)) hb); have n2_ := Aside0.mk (hbox); have n3_ := Aside0.mk ((by rw [hg]; exact (below_size (by repeat (first | (with_reducible first | exact HB.out | apply below_alloc | apply pw_below_drewN | apply below_drew1 | refine below_set ?_ GE260001.out) | exact HB.out))) : w.heap.size ≤ gb260002)); have n4_ := Aside0.mk ((by rw [hg]; exact (below_size (by repeat (first | (with_reducible first | exact HB.out | apply below_alloc | apply pw_below_drewN | apply below_drew1 | refine below_set ?_ GE260001.out) | exact HB.out))) : w.heap.size ≤ gb260002)); have n5_ := Aside0.mk ((by rw [hg]; exact Nat.ne_of_lt (blk_lt (g := gb260001) (o := .cells #[.string a0_0, .int .i64 a0_1] 23 (0, 0)) (by (with_reducible repeat (first | refine blk_drewN ?_ _ | refine blk_drew ?_ | refine blk_alloc ?_ _)); exact BK260001.out)) : gb260001 ≠ gb260002)); have n6_ := Aside0.mk ((by rw [hg]; exact Nat.ne_of_gt (blk_lt (g := gb260001) (o := .cells #[.string a0_0, .int .i64 a0_1] 23 (0, 0)) (by (with_reducible repeat (first | refine blk_drewN ?_ _ | refine blk_drew ?_ | refine blk_alloc ?_ _)); exact BK260001.out)) : gb260002 ≠ gb260001)); clear BK260001; clear HB; have BK260001 := n0_; have HB := n1_; have BK260002 := n2_; have GW260002 := n3_; have GE260002 := n4_; have NB260001_260002 := n5_; have NB260002_260001 := n6_; clear n0_ n1_ n2_ n3_ n4_ n5_ n6_; clear hb hbox hg; have hnb8 := NB260001_260002.out; have hnc8 := NB260002_260001.out; have hcz9_0 : w7.cell? ⟨gb260001, 0, none⟩ = some (.string a0_0) := (blk_cell BK260001.out 0).trans rfl; have hcz9_1 : w7.cell? ⟨gb260001, 1, none⟩ = some (.int .i64 a0_1) := (blk_cell BK260001.out 1).trans rfl; have hfz9_0 := blk_frozen BK260001.out 0; have hfz9_1 := blk_frozen BK260001.out 1) | ((with_reducible refine gate_callee (f := 17) rfl ?_); refine goesL_ (some 15) rfl rfl Try.func17 (by kernel_rfl) rfl #[.agg #[.string a0_0, .int .i64 a0_1]] rfl (by (try simp only [List.map_toArray, List.map_cons, List.map_nil]); first | done | rfl | (simp only [List.length_drop, List.length_take]; rfl)) ?_; (with_reducible refine (columbariumref07_Right.calls a0_0 a0_1 true _ A3.out).mono ?_); rintro e w10 ⟨rfl, hb⟩; refine ⟨_, rfl, ?_⟩; have n0_ := Aside0.mk (blk_below (g := gb260001) (o := .cells #[.string a0_0, .int .i64 a0_1] 23 (0, 0)) (by (with_reducible repeat (first | refine blk_drewN ?_ _ | refine blk_drew ?_ | refine blk_alloc ?_ _)); exact BK260001.out) hb); have n1_ := Aside0.mk (blk_below (g := gb260002) (o := .cells #[.string (⟨#[]⟩ : ByteArray), .int .i64 0] 23 (0, 0)) (by (with_reducible repeat (first | refine blk_drewN ?_ _ | refine blk_drew ?_ | refine blk_alloc ?_ _)); exact BK260002.out) hb); have n2_ := Aside0.mk (below_step (by repeat (first | (with_reducible first | exact HB.out | apply below_alloc | apply pw_below_drewN | apply below_drew1 | refine below_set ?_ GE260001.out | refine below_set ?_ GE260002.out) | exact HB.out)) hb); clear BK260001; clear BK260002; clear HB; have BK260001 := n0_; have BK260002 := n1_; have HB := n2_; clear n0_ n1_ n2_; (try clear hb); (try clear hb2); (try clear hk); (try clear hi)))
   have n0_ := Aside0.mk (blk_drew BK260001.out)
   have n1_ := Aside0.mk (blk_drew BK260002.out)
   have n2_ := Aside0.mk (below_drew1 HB.out)
   clear BK260001
   clear BK260002
   clear HB
   have BK260001 := n0_
   have BK260002 := n1_
   have HB := n2_
   clear n0_ n1_ n2_
   refine start_ (n := 4) (S := fun w' => w'.cell? ⟨gb260001, 0, none⟩ = some (.string a0_0) ∧ w'.cell? ⟨gb260001, 1, none⟩ = some (.int .i64 a0_1)) (ds := []) #[false, false, false, false] (by kernel_rfl) rfl rfl ⟨(blk_cell BK260001.out 0).trans rfl, (blk_cell BK260001.out 1).trans rfl⟩ (fun hHeld => ?_)
   generalize w10.drew = w11 at BK260001 BK260002 HB hHeld ⊢
   refine pure_ (i := 1) (N := some 4) (v := ?_) (a' := ?_) #[false, true, false, false] rfl rfl (by kernel_rfl) (fun _ _ _ h => h) (Or.inl ⟨by rfl, ?_⟩) ?_ ?_
   rotate_left
   ·intro w'
    go_simp
    with_reducible rfl
   rotate_left
   ·simp only [Act.put, List.setIfInBounds_toArray, List.set_cons_zero, List.set_cons_succ, i64_w, i32_w]
    rfl
   refine take_ (i := 0) (N := some 21) (v := ?_) (a' := ?_) #[true, true, false, false] rfl rfl (by kernel_rfl) (fun _ _ _ h => h) (Or.inl ⟨by rfl, ?_⟩) hHeld ?_ ?_
   rotate_left
   ·rintro w' ⟨s0, s1⟩
    go_simp
    with_reducible rfl
   rotate_left
   ·simp only [Act.put, List.setIfInBounds_toArray, List.set_cons_zero, List.set_cons_succ, i64_w, i32_w]
    rfl
   refine one_ (i := 2) (N := none) #[true, true, true, false] rfl rfl (by kernel_rfl) (by decide) (fun K hK => ?_)
   have hs12 : w11.cell? ⟨gb260002, 0, none⟩ = some (.string (⟨#[]⟩ : ByteArray)) := (blk_cell BK260002.out 0).trans rfl
   have hfs12 := blk_frozen BK260002.out 0
   have hns12_0 := NB260001_260002.out
   have hms12_0 := NB260002_260001.out
   have hs13 : w11.cell? ⟨gb260002, 1, none⟩ = some (.int .i64 0) := (blk_cell BK260002.out 1).trans rfl
   have hfs13 := blk_frozen BK260002.out 1
   have hns13_0 := NB260001_260002.out
   have hms13_0 := NB260002_260001.out
   refine skip_ (w1 := ?_) (by rfl) rfl ?_ ?_
   rotate_left
   ·go_simp
    rfl
   refine hK.out _ _ ⟨((cell_far (p := ⟨gb260002, _, none⟩) NB260001_260002.out _).trans (((cell_far (p := ⟨gb260002, _, none⟩) NB260001_260002.out _).trans (hHeld.1)))), ((cell_far (p := ⟨gb260002, _, none⟩) NB260001_260002.out _).trans (((cell_far (p := ⟨gb260002, _, none⟩) NB260001_260002.out _).trans (hHeld.2))))⟩ (fun hHeld => ?_)
   clear hK K
   refine pure_ (i := 3) (N := some 6) (v := ?_) (a' := ?_) #[true, true, true, true] rfl rfl (by kernel_rfl) (fun _ _ _ h => h) (Or.inl ⟨by rfl, ?_⟩) ?_ ?_
   rotate_left
   ·intro w'
    go_simp
    with_reducible rfl
   rotate_left
   ·simp only [Act.put, List.setIfInBounds_toArray, List.set_cons_zero, List.set_cons_succ, i64_w, i32_w]
    rfl
   refine done_ (by kernel_rfl) ?_
   try go_wp2
   refine bodyPost_ret (results_list (rs := [.tmp 4, .cell 5 23, .tmp 6]) rfl (by simp) (.tmp (.cell gb260002 23 #[.string a0_0, .int .i64 a0_1] (0, 0) _ rfl (by (with_reducible repeat (first | refine blk_drewN ?_ _ | refine blk_drew ?_ | refine blk_alloc ?_ _)); refine blk_put (cs := #[.string a0_0, .int .i64 0]) ?_ 1 _ rfl; (with_reducible repeat (first | refine blk_drewN ?_ _ | refine blk_drew ?_ | refine blk_alloc ?_ _)); refine blk_put (cs := #[.string (⟨#[]⟩ : ByteArray), .int .i64 0]) ?_ 0 _ rfl; (with_reducible repeat (first | refine blk_drewN ?_ _ | refine blk_drew ?_ | refine blk_alloc ?_ _)); exact BK260002.out) Try.underlying23 rfl (by kernel_rfl) (.tmp .nil)))) rfl ?_
   exact ⟨_, by first | rfl | (simp [errW_none, errW_some] <;> rfl) | (simp [*, errW_none, errW_some] <;> rfl), by first | exact Kd.R_nil _ _ _ _ _ | exact Kd.N_nil _ _ _ _ _ | exact Kd.V_nil _ _ _ _ _ | exact Kd.Q_nil _ _ _ _ _ | exact Kd.S_nil _ _ _ _ _, by repeat (first | (with_reducible first | exact HB.out | apply below_alloc | apply pw_below_drewN | apply below_drew1 | refine below_set ?_ GE260001.out | refine below_set ?_ GE260002.out) | exact HB.out)⟩
  ·rw [if_neg c5] at H
   have c5b0 : decide (1000 < (l1.length : Int)) = false := decide_eq_false c5
   have c5b1 : decide (1000 < l1.length) = false := decide_eq_false (by omega)
   clear c5
   by_cases c14 : ([] : List Int).length + l1.length < 17592186044416
   ·rw [if_pos c14] at H
    have LMc14 := Aside0.mk c14
    clear c14
    obtain ⟨y260004, hy260004⟩ : ∃ y_ : List Int, y_ = (([] : List Int) ++ l1) := ⟨_, rfl⟩
    replace H : (columbariumref07_Turn.l0 k y260004 (wrap64 ((l1.length : Int) - 1)) a0_0 a0_1 a0_0 a0_1) = some (r1, r2, r3, r4) := by first | (rw [hy260004]; with_reducible exact H) | (have H2_ := (Option.bind_some _ _).symm.trans H; rw [hy260004]; with_reducible exact H2_) | (have H2_ := (Option.bind_some _ _).symm.trans H; with_reducible exact H2_) | with_reducible exact H | (rw [hy260004]; exact H) | exact H
    have Ny260004 := Aside0.mk hy260004
    clear hy260004
    have H' := Aside0.mk H
    clear H
    go_enter Try.func26, Try.ntmps26
    go_wp2_with (first | ((with_reducible refine gate_dst (N := 2) rfl ?_); refine box_event ?hg (N := 2) ?hd (cs := #[.string a0_0, .int .i64 a0_1]) (t := 23) ?hr ?_; (case hd => rfl); (case hg => rfl); (case hr => first | (go_simp; done) | (go_simp; rfl)); intro gb260001 hg w15 hbox hb; have n0_ := Aside0.mk (below_step (by repeat (first | (with_reducible first | exact HB.out | apply below_alloc | apply pw_below_drewN | apply below_drew1) | exact HB.out)) hb); have n1_ := Aside0.mk (hbox); have n2_ := Aside0.mk ((by rw [hg]; exact (below_size (by repeat (first | (with_reducible first | exact HB.out | apply below_alloc | apply pw_below_drewN | apply below_drew1) | exact HB.out))) : w.heap.size ≤ gb260001)); have n3_ := Aside0.mk ((by rw [hg]; exact (below_size (by repeat (first | (with_reducible first | exact HB.out | apply below_alloc | apply pw_below_drewN | apply below_drew1) | exact HB.out))) : w.heap.size ≤ gb260001)); clear HB; have HB := n0_; have BK260001 := n1_; have GW260001 := n2_; have GE260001 := n3_; clear n0_ n1_ n2_ n3_; clear hb hbox hg) | ((with_reducible refine gate_dst (N := 5) rfl ?_); refine box_event ?hg (N := 5) ?hd (cs := #[.string (⟨#[]⟩ : ByteArray), .int .i64 0]) (t := 23) ?hr ?_; (case hd => rfl); (case hg => rfl); (case hr => first | (go_simp; done) | (go_simp; rfl)); intro gb260002 hg w16 hbox hb; have n0_ := Aside0.mk (blk_below (g := gb260001) (o := .cells #[.string a0_0, .int .i64 a0_1] 23 (0, 0)) (by (with_reducible repeat (first | refine blk_drewN ?_ _ | refine blk_drew ?_ | refine blk_alloc ?_ _)); exact BK260001.out) hb); have n1_ := Aside0.mk (below_step (by repeat (first | (with_reducible first | exact HB.out | apply below_alloc | apply pw_below_drewN | apply below_drew1 | refine below_set ?_ GE260001.out) | exact HB.out)) hb); have n2_ := Aside0.mk (hbox); have n3_ := Aside0.mk ((by rw [hg]; exact (below_size (by repeat (first | (with_reducible first | exact HB.out | apply below_alloc | apply pw_below_drewN | apply below_drew1 | refine below_set ?_ GE260001.out) | exact HB.out))) : w.heap.size ≤ gb260002)); have n4_ := Aside0.mk ((by rw [hg]; exact (below_size (by repeat (first | (with_reducible first | exact HB.out | apply below_alloc | apply pw_below_drewN | apply below_drew1 | refine below_set ?_ GE260001.out) | exact HB.out))) : w.heap.size ≤ gb260002)); have n5_ := Aside0.mk ((by rw [hg]; exact Nat.ne_of_lt (blk_lt (g := gb260001) (o := .cells #[.string a0_0, .int .i64 a0_1] 23 (0, 0)) (by (with_reducible repeat (first | refine blk_drewN ?_ _ | refine blk_drew ?_ | refine blk_alloc ?_ _)); exact BK260001.out)) : gb260001 ≠ gb260002)); have n6_ := Aside0.mk ((by rw [hg]; exact Nat.ne_of_gt (blk_lt (g := gb260001) (o := .cells #[.string a0_0, .int .i64 a0_1] 23 (0, 0)) (by (with_reducible repeat (first | refine blk_drewN ?_ _ | refine blk_drew ?_ | refine blk_alloc ?_ _)); exact BK260001.out)) : gb260002 ≠ gb260001)); clear BK260001; clear HB; have BK260001 := n0_; have HB := n1_; have BK260002 := n2_; have GW260002 := n3_; have GE260002 := n4_; have NB260001_260002 := n5_; have NB260002_260001 := n6_; clear n0_ n1_ n2_ n3_ n4_ n5_ n6_; clear hb hbox hg; have hnb17 := NB260001_260002.out; have hnc17 := NB260002_260001.out; have hcz18_0 : w16.cell? ⟨gb260001, 0, none⟩ = some (.string a0_0) := (blk_cell BK260001.out 0).trans rfl; have hcz18_1 : w16.cell? ⟨gb260001, 1, none⟩ = some (.int .i64 a0_1) := (blk_cell BK260001.out 1).trans rfl; have hfz18_0 := blk_frozen BK260001.out 0; have hfz18_1 := blk_frozen BK260001.out 1) | ((with_reducible refine gate_callee (f := 17) rfl ?_); refine goesL_ (some 15) rfl rfl Try.func17 (by kernel_rfl) rfl #[.agg #[.string a0_0, .int .i64 a0_1]] rfl (by (try simp only [List.map_toArray, List.map_cons, List.map_nil]); first | done | rfl | (simp only [List.length_drop, List.length_take]; rfl)) ?_; (with_reducible refine (columbariumref07_Right.calls a0_0 a0_1 true _ A3.out).mono ?_); rintro e w19 ⟨rfl, hb⟩; refine ⟨_, rfl, ?_⟩; have n0_ := Aside0.mk (blk_below (g := gb260001) (o := .cells #[.string a0_0, .int .i64 a0_1] 23 (0, 0)) (by (with_reducible repeat (first | refine blk_drewN ?_ _ | refine blk_drew ?_ | refine blk_alloc ?_ _)); exact BK260001.out) hb); have n1_ := Aside0.mk (blk_below (g := gb260002) (o := .cells #[.string (⟨#[]⟩ : ByteArray), .int .i64 0] 23 (0, 0)) (by (with_reducible repeat (first | refine blk_drewN ?_ _ | refine blk_drew ?_ | refine blk_alloc ?_ _)); exact BK260002.out) hb); have n2_ := Aside0.mk (below_step (by repeat (first | (with_reducible first | exact HB.out | apply below_alloc | apply pw_below_drewN | apply below_drew1 | refine below_set ?_ GE260001.out | refine below_set ?_ GE260002.out) | exact HB.out)) hb); clear BK260001; clear BK260002; clear HB; have BK260001 := n0_; have BK260002 := n1_; have HB := n2_; clear n0_ n1_ n2_; (try clear hb); (try clear hb2); (try clear hk); (try clear hi)) | ((with_reducible refine gate_builtin (b := .append) (xs := #[.const (.slice none 0 0), .tmp 22]) rfl ?_); at_builtin; refine Kd.R_append_rows (Kd.int .i64) (w0 := w) w.heap.size rfl (.const (.slice none 0 0)) (.tmp 22) 24 3 (.int .i64 0) 8 rfl Try.underlying24 info3 rfl (by decide) (by omega) (.slice none 0 0) ([] : List Int) l1 _ _ _ (fun _ => True) (fun _ => False) rfl rfl ?aO ?aR (fun _ _ h => h) (fun _ h => h.elim) ?aF ?aB ?aS ?aL ?_; (case aR => repeat (first | exact (Kd.C_below HR1.out HB.out) | (with_reducible refine Kd.C_alloc ?_ _) | (with_reducible refine Kd.C_drewN ?_ _) | (with_reducible refine Kd.C_drew ?_))); (case aB => exact (by repeat (first | (with_reducible first | exact HB.out | apply below_alloc | apply pw_below_drewN | apply below_drew1 | refine below_set ?_ GE260001.out | refine below_set ?_ GE260002.out) | exact HB.out))); (case aF => exact (fun _ _ => trivial)); (case aO => exact ((Kd.R_nil _ _ _ _ (fun _ => True)))); (case aS => exact (below_size (by repeat (first | (with_reducible first | exact HB.out | apply below_alloc | apply pw_below_drewN | apply below_drew1 | refine below_set ?_ GE260001.out | refine below_set ?_ GE260002.out) | exact HB.out)))); (case aL => have := LMc14.out; omega); intro v260005 w20 ho hb hg hat; rw [← Ny260004.out] at ho; have n0_ := Aside0.mk (blk_grown (g := gb260001) (o := .cells #[.string a0_0, .int .i64 a0_1] 23 (0, 0)) (by (with_reducible repeat (first | refine blk_drewN ?_ _ | refine blk_drew ?_ | refine blk_alloc ?_ _)); exact BK260001.out) hg (by simp [Value.ownBlock])); have n1_ := Aside0.mk (blk_grown (g := gb260002) (o := .cells #[.string (⟨#[]⟩ : ByteArray), .int .i64 0] 23 (0, 0)) (by (with_reducible repeat (first | refine blk_drewN ?_ _ | refine blk_drew ?_ | refine blk_alloc ?_ _)); exact BK260002.out) hg (by simp [Value.ownBlock])); have n2_ := Aside0.mk (hb); have n3_ := Aside0.mk (ho); clear BK260001; clear BK260002; clear HB; have BK260001 := n0_; have BK260002 := n1_; have HB := n2_; have HO260006 := n3_; clear n0_ n1_ n2_ n3_; clear ho hb hg hat; have hcz21_0 : w20.cell? ⟨gb260001, 0, none⟩ = some (.string a0_0) := (blk_cell BK260001.out 0).trans rfl; have hcz21_1 : w20.cell? ⟨gb260001, 1, none⟩ = some (.int .i64 a0_1) := (blk_cell BK260001.out 1).trans rfl; have hfz21_0 := blk_frozen BK260001.out 0; have hfz21_1 := blk_frozen BK260001.out 1) | ((with_reducible refine gate_dst (N := 8) rfl ?_); refine box_event ?hg (N := 8) ?hd (cs := #[.string (⟨#[]⟩ : ByteArray), .int .i64 0]) (t := 23) ?hr ?_; (case hd => rfl); (case hg => rfl); (case hr => first | (go_simp; done) | (go_simp; rfl)); intro gb260007 hg w22 hbox hb; have n0_ := Aside0.mk (Kd.R_below (by (with_reducible repeat (first | apply Kd.R_alloc | apply Kd.R_drewN | apply Kd.R_drew)); exact HO260006.out) hb); have n1_ := Aside0.mk (blk_below (g := gb260001) (o := .cells #[.string a0_0, .int .i64 a0_1] 23 (0, 0)) (by (with_reducible repeat (first | refine blk_drewN ?_ _ | refine blk_drew ?_ | refine blk_alloc ?_ _)); exact BK260001.out) hb); have n2_ := Aside0.mk (blk_below (g := gb260002) (o := .cells #[.string (⟨#[]⟩ : ByteArray), .int .i64 0] 23 (0, 0)) (by (with_reducible repeat (first | refine blk_drewN ?_ _ | refine blk_drew ?_ | refine blk_alloc ?_ _)); exact BK260002.out) hb); have n3_ := Aside0.mk (below_step (by repeat (first | (with_reducible first | exact HB.out | apply below_alloc | apply pw_below_drewN | apply below_drew1 | refine below_set ?_ GE260001.out | refine below_set ?_ GE260002.out) | exact HB.out)) hb); have n4_ := Aside0.mk (hbox); have n5_ := Aside0.mk ((by rw [hg]; exact (below_size (by repeat (first | (with_reducible first | exact HB.out | apply below_alloc | apply pw_below_drewN | apply below_drew1 | refine below_set ?_ GE260001.out | refine below_set ?_ GE260002.out) | exact HB.out))) : w.heap.size ≤ gb260007)); have n6_ := Aside0.mk ((by rw [hg]; exact (below_size (by repeat (first | (with_reducible first | exact HB.out | apply below_alloc | apply pw_below_drewN | apply below_drew1 | refine below_set ?_ GE260001.out | refine below_set ?_ GE260002.out) | exact HB.out))) : w.heap.size ≤ gb260007)); have n7_ := Aside0.mk ((by rw [hg]; exact Nat.ne_of_lt (blk_lt (g := gb260001) (o := .cells #[.string a0_0, .int .i64 a0_1] 23 (0, 0)) (by (with_reducible repeat (first | refine blk_drewN ?_ _ | refine blk_drew ?_ | refine blk_alloc ?_ _)); exact BK260001.out)) : gb260001 ≠ gb260007)); have n8_ := Aside0.mk ((by rw [hg]; exact Nat.ne_of_gt (blk_lt (g := gb260001) (o := .cells #[.string a0_0, .int .i64 a0_1] 23 (0, 0)) (by (with_reducible repeat (first | refine blk_drewN ?_ _ | refine blk_drew ?_ | refine blk_alloc ?_ _)); exact BK260001.out)) : gb260007 ≠ gb260001)); have n9_ := Aside0.mk ((by rw [hg]; exact Nat.ne_of_lt (blk_lt (g := gb260002) (o := .cells #[.string (⟨#[]⟩ : ByteArray), .int .i64 0] 23 (0, 0)) (by (with_reducible repeat (first | refine blk_drewN ?_ _ | refine blk_drew ?_ | refine blk_alloc ?_ _)); exact BK260002.out)) : gb260002 ≠ gb260007)); have n10_ := Aside0.mk ((by rw [hg]; exact Nat.ne_of_gt (blk_lt (g := gb260002) (o := .cells #[.string (⟨#[]⟩ : ByteArray), .int .i64 0] 23 (0, 0)) (by (with_reducible repeat (first | refine blk_drewN ?_ _ | refine blk_drew ?_ | refine blk_alloc ?_ _)); exact BK260002.out)) : gb260007 ≠ gb260002)); clear HO260006; clear BK260001; clear BK260002; clear HB; have HO260006 := n0_; have BK260001 := n1_; have BK260002 := n2_; have HB := n3_; have BK260007 := n4_; have GW260007 := n5_; have GE260007 := n6_; have NB260001_260007 := n7_; have NB260007_260001 := n8_; have NB260002_260007 := n9_; have NB260007_260002 := n10_; clear n0_ n1_ n2_ n3_ n4_ n5_ n6_ n7_ n8_ n9_ n10_; clear hb hbox hg; have hnb23 := NB260007_260001.out; have hnc23 := NB260001_260007.out; have hnb24 := NB260007_260002.out; have hnc24 := NB260002_260007.out; have hcz25_0 : w22.cell? ⟨gb260007, 0, none⟩ = some (.string (⟨#[]⟩ : ByteArray)) := (blk_cell BK260007.out 0).trans rfl; have hcz25_1 : w22.cell? ⟨gb260007, 1, none⟩ = some (.int .i64 0) := (blk_cell BK260007.out 1).trans rfl; have hfz25_0 := blk_frozen BK260007.out 0; have hfz25_1 := blk_frozen BK260007.out 1))
    go_loopg [9] k (fun kq v9 w' => ∃ (x7_1 : List Int) (x9_1 : Int) (x260003000_1 : ByteArray) (x260003001_1 : Int) (x260008000_1 : ByteArray) (x260008001_1 : Int), v9 = .int .i64 x9_1 ∧ Aside0 (columbariumref07_Turn.l0 kq x7_1 x9_1 a0_0 a0_1 x260008000_1 x260008001_1 = some (r1, r2, r3, r4)) ∧ Aside0 (kq ≤ k) ∧ Aside0 (Kd.R (Kd.int .i64) 3 w' w.heap.size (fun _ => True) v260005 x7_1) ∧ Aside0 (w'.heap[gb260001]? = some (.cells #[.string a0_0, .int .i64 a0_1] 23 (0, 0))) ∧ Aside0 (w'.heap[gb260002]? = some (.cells #[.string x260003000_1, .int .i64 x260003001_1] 23 (0, 0))) ∧ Aside0 (w'.heap[gb260007]? = some (.cells #[.string x260008000_1, .int .i64 x260008001_1] 23 (0, 0))) ∧ Aside0 (Below w.heap.size w w'))
    case atStart => exact ⟨(y260004), (wrap64 ((l1.length : Int) - 1)), ((⟨#[]⟩ : ByteArray)), (0), (a0_0), (a0_1), (by first | rfl | (simp; done) | (simp [*]; done)), H', ⟨Nat.le_refl _⟩, ⟨by (with_reducible repeat (first | apply Kd.R_alloc | apply Kd.R_drewN | apply Kd.R_drew)); exact Kd.R_mono (Kd.R_far (p := ⟨gb260007, 1, none⟩) (Kd.R_far (p := ⟨gb260007, 0, none⟩) (Kd.R_types HO260006.out BK260007.out (by decide)) (fun _ hk => hk.2) (.string a0_0)) (fun _ hk => hk.2) (.int .i64 a0_1)) (fun _ hk => trivial)⟩, ⟨by (with_reducible repeat (first | refine blk_drewN ?_ _ | refine blk_drew ?_ | refine blk_alloc ?_ _)); refine blk_far ?_ NB260001_260007.out _; (with_reducible repeat (first | refine blk_drewN ?_ _ | refine blk_drew ?_ | refine blk_alloc ?_ _)); refine blk_far ?_ NB260001_260007.out _; (with_reducible repeat (first | refine blk_drewN ?_ _ | refine blk_drew ?_ | refine blk_alloc ?_ _)); exact BK260001.out⟩, ⟨by (with_reducible repeat (first | refine blk_drewN ?_ _ | refine blk_drew ?_ | refine blk_alloc ?_ _)); refine blk_far ?_ NB260002_260007.out _; (with_reducible repeat (first | refine blk_drewN ?_ _ | refine blk_drew ?_ | refine blk_alloc ?_ _)); refine blk_far ?_ NB260002_260007.out _; (with_reducible repeat (first | refine blk_drewN ?_ _ | refine blk_drew ?_ | refine blk_alloc ?_ _)); exact BK260002.out⟩, ⟨by (with_reducible repeat (first | refine blk_drewN ?_ _ | refine blk_drew ?_ | refine blk_alloc ?_ _)); refine blk_put (cs := #[.string a0_0, .int .i64 0]) ?_ 1 _ rfl; (with_reducible repeat (first | refine blk_drewN ?_ _ | refine blk_drew ?_ | refine blk_alloc ?_ _)); refine blk_put (cs := #[.string (⟨#[]⟩ : ByteArray), .int .i64 0]) ?_ 0 _ rfl; (with_reducible repeat (first | refine blk_drewN ?_ _ | refine blk_drew ?_ | refine blk_alloc ?_ _)); exact BK260007.out⟩, ⟨by repeat (first | (with_reducible first | exact HB.out | apply below_alloc | apply pw_below_drewN | apply below_drew1 | refine below_set ?_ GE260001.out | refine below_set ?_ GE260002.out | refine below_set ?_ GE260007.out) | exact HB.out)⟩⟩
    case round =>
     clear H'
     try clear c1
     try clear c2
     try clear p2
     try clear c4
     try clear c5
     try clear c5b0
     try clear c5b1
     try clear p6
     try clear c8
     try clear c14
     try clear c17
     try clear c23
     try clear c24
     try clear hcz18_0
     try clear hcz18_1
     try clear hcz21_0
     try clear hcz21_1
     try clear hcz25_0
     try clear hcz25_1
     try clear hcz9_0
     try clear hcz9_1
     try clear hfz18_0
     try clear hfz18_1
     try clear hfz21_0
     try clear hfz21_1
     try clear hfz25_0
     try clear hfz25_1
     try clear hfz9_0
     try clear hfz9_1
     obtain ⟨x7_1, x9_1, x260003000_1, x260003001_1, x260008000_1, x260008001_1, rfl, HA, HK1, HO_7, BK260001, BK260002, BK260007, HB⟩ := hrel
     cases gk with
     | zero => exact absurd HA.out (by simp [columbariumref07_Turn.l0])
     | succ k1 =>
      have H := HA.out
      clear HA
      simp only [columbariumref07_Turn.l0] at H
      by_cases c26 : x9_1 ≥ 1
      ·rw [if_pos c26] at H
       have c26b0 : decide (1 ≤ x9_1) = true := decide_eq_true c26
       clear c26
       replace H := Option.bind_eq_some_iff.mp H
       obtain ⟨⟨t260008, t260009, t260010, t260011⟩, A270, H⟩ := H
       replace H : (if t260011 = 0 then (if 0 ≤ t260008 then (if t260008 < (x7_1.length : Int) then (if 0 ≤ x9_1 then (if x9_1 < (x7_1.length : Int) then (columbariumref07_Turn.l0 k1 ((x7_1.set (t260008 : Int).toNat (rd x7_1 x9_1)).set (x9_1 : Int).toNat (rd x7_1 t260008)) (wrap64 (x9_1 - 1)) a0_0 a0_1 t260009 t260010) else (none)) else (none)) else (none)) else (none)) else (some (([] : List Int), a0_0, a0_1, t260011))) = some (r1, r2, r3, r4) := H
       have A27 := Aside0.mk A270
       clear A270
       by_cases c28 : t260011 = 0
       ·rw [if_pos c28] at H
        have c28b0 : (t260011 == 0) = true := beq_iff_eq.mpr c28
        have c28b1 : (t260011 != 0) = false := bne_eq_false_iff_eq.mpr c28
        clear c28
        by_cases c29 : 0 ≤ t260008
        ·rw [if_pos c29] at H
         have c29b0 : decide (0 ≤ t260008) = true := decide_eq_true c29
         clear c29
         by_cases c30 : t260008 < (x7_1.length : Int)
         ·rw [if_pos c30] at H
          have c30b0 : decide (t260008 < (x7_1.length : Int)) = true := decide_eq_true c30
          clear c30
          by_cases c31 : 0 ≤ x9_1
          ·rw [if_pos c31] at H
           have c31b0 : decide (0 ≤ x9_1) = true := decide_eq_true c31
           clear c31
           by_cases c32 : x9_1 < (x7_1.length : Int)
           ·rw [if_pos c32] at H
            have c32b0 : decide (x9_1 < (x7_1.length : Int)) = true := decide_eq_true c32
            clear c32
            obtain ⟨y260015, hy260015⟩ : ∃ y_ : List Int, y_ = (x7_1.set (t260008 : Int).toNat (rd x7_1 x9_1)) := ⟨_, rfl⟩
            replace H : (columbariumref07_Turn.l0 k1 (y260015.set (x9_1 : Int).toNat (rd x7_1 t260008)) (wrap64 (x9_1 - 1)) a0_0 a0_1 t260009 t260010) = some (r1, r2, r3, r4) := by first | (rw [hy260015]; with_reducible exact H) | (have H2_ := (Option.bind_some _ _).symm.trans H; rw [hy260015]; with_reducible exact H2_) | (have H2_ := (Option.bind_some _ _).symm.trans H; with_reducible exact H2_) | with_reducible exact H | (rw [hy260015]; exact H) | exact H
            have Ny260015 := Aside0.mk hy260015
            clear hy260015
            obtain ⟨y260016, hy260016⟩ : ∃ y_ : List Int, y_ = (y260015.set (x9_1 : Int).toNat (rd x7_1 t260008)) := ⟨_, rfl⟩
            replace H : (columbariumref07_Turn.l0 k1 y260016 (wrap64 (x9_1 - 1)) a0_0 a0_1 t260009 t260010) = some (r1, r2, r3, r4) := by first | (rw [hy260016]; with_reducible exact H) | (have H2_ := (Option.bind_some _ _).symm.trans H; rw [hy260016]; with_reducible exact H2_) | (have H2_ := (Option.bind_some _ _).symm.trans H; with_reducible exact H2_) | with_reducible exact H | (rw [hy260016]; exact H) | exact H
            have Ny260016 := Aside0.mk hy260016
            clear hy260016
            have H' := Aside0.mk H
            clear H
            have hnb35 := NB260007_260001.out
            have hnc35 := NB260001_260007.out
            have hnb36 := NB260007_260002.out
            have hnc36 := NB260002_260007.out
            have hcz37_0 : wr.cell? ⟨gb260007, 0, none⟩ = some (.string x260008000_1) := (blk_cell BK260007.out 0).trans rfl
            have hcz37_1 : wr.cell? ⟨gb260007, 1, none⟩ = some (.int .i64 x260008001_1) := (blk_cell BK260007.out 1).trans rfl
            have hfz37_0 := blk_frozen BK260007.out 0
            have hfz37_1 := blk_frozen BK260007.out 1
            go_wp2_with (first | ((with_reducible refine gate_callee (f := 24) rfl ?_); refine goesL_ (some 36) rfl rfl Try.func24 (by kernel_rfl) rfl #[.agg #[.string x260008000_1, .int .i64 x260008001_1], .int .i64 (wrap64 (x9_1 + 1))] rfl (by (try simp only [List.map_toArray, List.map_cons, List.map_nil]); first | done | rfl | (simp only [List.length_drop, List.length_take]; rfl)) ?_; (with_reducible refine (columbariumref07_Number.calls k1 x260008000_1 x260008001_1 (wrap64 (x9_1 + 1)) t260008 t260009 t260010 t260011 _ A27.out).mono ?_); rintro e w38 ⟨rfl, hb⟩; refine ⟨_, rfl, ?_⟩; have n0_ := Aside0.mk (Kd.R_below (by (with_reducible repeat (first | apply Kd.R_alloc | apply Kd.R_drewN | apply Kd.R_drew)); exact HO_7.out) hb); have n1_ := Aside0.mk (blk_below (g := gb260001) (o := .cells #[.string a0_0, .int .i64 a0_1] 23 (0, 0)) (by (with_reducible repeat (first | refine blk_drewN ?_ _ | refine blk_drew ?_ | refine blk_alloc ?_ _)); exact BK260001.out) hb); have n2_ := Aside0.mk (blk_below (g := gb260002) (o := .cells #[.string x260003000_1, .int .i64 x260003001_1] 23 (0, 0)) (by (with_reducible repeat (first | refine blk_drewN ?_ _ | refine blk_drew ?_ | refine blk_alloc ?_ _)); exact BK260002.out) hb); have n3_ := Aside0.mk (blk_below (g := gb260007) (o := .cells #[.string x260008000_1, .int .i64 x260008001_1] 23 (0, 0)) (by (with_reducible repeat (first | refine blk_drewN ?_ _ | refine blk_drew ?_ | refine blk_alloc ?_ _)); exact BK260007.out) hb); have n4_ := Aside0.mk (below_step (by repeat (first | (with_reducible first | exact HB.out | apply below_alloc | apply pw_below_drewN | apply below_drew1 | refine below_set ?_ GE260001.out | refine below_set ?_ GE260002.out | refine below_set ?_ GE260007.out) | exact HB.out)) hb); clear HO_7; clear BK260001; clear BK260002; clear BK260007; clear HB; have HO_7 := n0_; have BK260001 := n1_; have BK260002 := n2_; have BK260007 := n3_; have HB := n4_; clear n0_ n1_ n2_ n3_ n4_; (try clear hb); (try clear hb2); (try clear hk); (try clear hi)) | ((with_reducible refine gate_dst (N := 11) rfl ?_); refine box_event ?hg (N := 11) ?hd (cs := #[.string (⟨#[]⟩ : ByteArray), .int .i64 0]) (t := 23) ?hr ?_; (case hd => rfl); (case hg => rfl); (case hr => first | (go_simp; done) | (go_simp; rfl)); intro gb260012 hg w39 hbox hb; have n0_ := Aside0.mk (Kd.R_below (by (with_reducible repeat (first | apply Kd.R_alloc | apply Kd.R_drewN | apply Kd.R_drew)); exact HO_7.out) hb); have n1_ := Aside0.mk (blk_below (g := gb260001) (o := .cells #[.string a0_0, .int .i64 a0_1] 23 (0, 0)) (by (with_reducible repeat (first | refine blk_drewN ?_ _ | refine blk_drew ?_ | refine blk_alloc ?_ _)); exact BK260001.out) hb); have n2_ := Aside0.mk (blk_below (g := gb260002) (o := .cells #[.string x260003000_1, .int .i64 x260003001_1] 23 (0, 0)) (by (with_reducible repeat (first | refine blk_drewN ?_ _ | refine blk_drew ?_ | refine blk_alloc ?_ _)); exact BK260002.out) hb); have n3_ := Aside0.mk (blk_below (g := gb260007) (o := .cells #[.string x260008000_1, .int .i64 x260008001_1] 23 (0, 0)) (by (with_reducible repeat (first | refine blk_drewN ?_ _ | refine blk_drew ?_ | refine blk_alloc ?_ _)); exact BK260007.out) hb); have n4_ := Aside0.mk (below_step (by repeat (first | (with_reducible first | exact HB.out | apply below_alloc | apply pw_below_drewN | apply below_drew1 | refine below_set ?_ GE260001.out | refine below_set ?_ GE260002.out | refine below_set ?_ GE260007.out) | exact HB.out)) hb); have n5_ := Aside0.mk (hbox); have n6_ := Aside0.mk ((by rw [hg]; exact (below_size (by repeat (first | (with_reducible first | exact HB.out | apply below_alloc | apply pw_below_drewN | apply below_drew1 | refine below_set ?_ GE260001.out | refine below_set ?_ GE260002.out | refine below_set ?_ GE260007.out) | exact HB.out))) : w.heap.size ≤ gb260012)); have n7_ := Aside0.mk ((by rw [hg]; exact (below_size (by repeat (first | (with_reducible first | exact HB.out | apply below_alloc | apply pw_below_drewN | apply below_drew1 | refine below_set ?_ GE260001.out | refine below_set ?_ GE260002.out | refine below_set ?_ GE260007.out) | exact HB.out))) : w.heap.size ≤ gb260012)); have n8_ := Aside0.mk ((by rw [hg]; exact Nat.ne_of_lt (blk_lt (g := gb260001) (o := .cells #[.string a0_0, .int .i64 a0_1] 23 (0, 0)) (by (with_reducible repeat (first | refine blk_drewN ?_ _ | refine blk_drew ?_ | refine blk_alloc ?_ _)); exact BK260001.out)) : gb260001 ≠ gb260012)); have n9_ := Aside0.mk ((by rw [hg]; exact Nat.ne_of_gt (blk_lt (g := gb260001) (o := .cells #[.string a0_0, .int .i64 a0_1] 23 (0, 0)) (by (with_reducible repeat (first | refine blk_drewN ?_ _ | refine blk_drew ?_ | refine blk_alloc ?_ _)); exact BK260001.out)) : gb260012 ≠ gb260001)); have n10_ := Aside0.mk ((by rw [hg]; exact Nat.ne_of_lt (blk_lt (g := gb260002) (o := .cells #[.string x260003000_1, .int .i64 x260003001_1] 23 (0, 0)) (by (with_reducible repeat (first | refine blk_drewN ?_ _ | refine blk_drew ?_ | refine blk_alloc ?_ _)); exact BK260002.out)) : gb260002 ≠ gb260012)); have n11_ := Aside0.mk ((by rw [hg]; exact Nat.ne_of_gt (blk_lt (g := gb260002) (o := .cells #[.string x260003000_1, .int .i64 x260003001_1] 23 (0, 0)) (by (with_reducible repeat (first | refine blk_drewN ?_ _ | refine blk_drew ?_ | refine blk_alloc ?_ _)); exact BK260002.out)) : gb260012 ≠ gb260002)); have n12_ := Aside0.mk ((by rw [hg]; exact Nat.ne_of_lt (blk_lt (g := gb260007) (o := .cells #[.string x260008000_1, .int .i64 x260008001_1] 23 (0, 0)) (by (with_reducible repeat (first | refine blk_drewN ?_ _ | refine blk_drew ?_ | refine blk_alloc ?_ _)); exact BK260007.out)) : gb260007 ≠ gb260012)); have n13_ := Aside0.mk ((by rw [hg]; exact Nat.ne_of_gt (blk_lt (g := gb260007) (o := .cells #[.string x260008000_1, .int .i64 x260008001_1] 23 (0, 0)) (by (with_reducible repeat (first | refine blk_drewN ?_ _ | refine blk_drew ?_ | refine blk_alloc ?_ _)); exact BK260007.out)) : gb260012 ≠ gb260007)); clear HO_7; clear BK260001; clear BK260002; clear BK260007; clear HB; have HO_7 := n0_; have BK260001 := n1_; have BK260002 := n2_; have BK260007 := n3_; have HB := n4_; have BK260012 := n5_; have GW260012 := n6_; have GE260012 := n7_; have NB260001_260012 := n8_; have NB260012_260001 := n9_; have NB260002_260012 := n10_; have NB260012_260002 := n11_; have NB260007_260012 := n12_; have NB260012_260007 := n13_; clear n0_ n1_ n2_ n3_ n4_ n5_ n6_ n7_ n8_ n9_ n10_ n11_ n12_ n13_; clear hb hbox hg; have hnb40 := NB260012_260001.out; have hnc40 := NB260001_260012.out; have hnb41 := NB260012_260002.out; have hnc41 := NB260002_260012.out; have hnb42 := NB260012_260007.out; have hnc42 := NB260007_260012.out; have hcz43_0 : w39.cell? ⟨gb260012, 0, none⟩ = some (.string (⟨#[]⟩ : ByteArray)) := (blk_cell BK260012.out 0).trans rfl; have hcz43_1 : w39.cell? ⟨gb260012, 1, none⟩ = some (.int .i64 0) := (blk_cell BK260012.out 1).trans rfl; have hfz43_0 := blk_frozen BK260012.out 0; have hfz43_1 := blk_frozen BK260012.out 1) | ((with_reducible refine gate_store (t := 23) (p := 11) rfl ?_); refine store_event (t := 23) (p := 11) (v := ?vo_w44) (w1 := ((w39.setCell ⟨gb260012, 0, none⟩ (.string t260009)).setCell ⟨gb260012, 1, none⟩ (.int .i64 t260010))) ?hg ?ho ?hn ?hr ?_; (case ho => rfl); (case hg => rfl); (case hn => rfl); (case hr => first | (go_simp; done) | (go_simp; rfl)); intro w44 hw; have n0_ : Aside0 (Kd.R (Kd.int .i64) 3 w44 w.heap.size (fun _ => True) v260005 x7_1) := ⟨(by rw [hw]; exact (by (with_reducible repeat (first | apply Kd.R_alloc | apply Kd.R_drewN | apply Kd.R_drew)); exact Kd.R_mono (Kd.R_far (p := ⟨gb260012, 1, none⟩) (Kd.R_far (p := ⟨gb260012, 0, none⟩) (Kd.R_types HO_7.out BK260012.out (by decide)) (fun _ hk => hk.2) (.string t260009)) (fun _ hk => hk.2) (.int .i64 t260010)) (fun _ hk => trivial)))⟩; have n1_ : Aside0 (w44.heap[gb260001]? = some (.cells #[.string a0_0, .int .i64 a0_1] 23 (0, 0))) := ⟨(by rw [hw]; exact (by (with_reducible repeat (first | refine blk_drewN ?_ _ | refine blk_drew ?_ | refine blk_alloc ?_ _)); refine blk_far ?_ NB260001_260012.out _; (with_reducible repeat (first | refine blk_drewN ?_ _ | refine blk_drew ?_ | refine blk_alloc ?_ _)); refine blk_far ?_ NB260001_260012.out _; (with_reducible repeat (first | refine blk_drewN ?_ _ | refine blk_drew ?_ | refine blk_alloc ?_ _)); exact BK260001.out))⟩; have n2_ : Aside0 (w44.heap[gb260002]? = some (.cells #[.string x260003000_1, .int .i64 x260003001_1] 23 (0, 0))) := ⟨(by rw [hw]; exact (by (with_reducible repeat (first | refine blk_drewN ?_ _ | refine blk_drew ?_ | refine blk_alloc ?_ _)); refine blk_far ?_ NB260002_260012.out _; (with_reducible repeat (first | refine blk_drewN ?_ _ | refine blk_drew ?_ | refine blk_alloc ?_ _)); refine blk_far ?_ NB260002_260012.out _; (with_reducible repeat (first | refine blk_drewN ?_ _ | refine blk_drew ?_ | refine blk_alloc ?_ _)); exact BK260002.out))⟩; have n3_ : Aside0 (w44.heap[gb260007]? = some (.cells #[.string x260008000_1, .int .i64 x260008001_1] 23 (0, 0))) := ⟨(by rw [hw]; exact (by (with_reducible repeat (first | refine blk_drewN ?_ _ | refine blk_drew ?_ | refine blk_alloc ?_ _)); refine blk_far ?_ NB260007_260012.out _; (with_reducible repeat (first | refine blk_drewN ?_ _ | refine blk_drew ?_ | refine blk_alloc ?_ _)); refine blk_far ?_ NB260007_260012.out _; (with_reducible repeat (first | refine blk_drewN ?_ _ | refine blk_drew ?_ | refine blk_alloc ?_ _)); exact BK260007.out))⟩; have n4_ : Aside0 (w44.heap[gb260012]? = some (.cells #[.string t260009, .int .i64 t260010] 23 (0, 0))) := ⟨(by rw [hw]; exact (by (with_reducible repeat (first | refine blk_drewN ?_ _ | refine blk_drew ?_ | refine blk_alloc ?_ _)); refine blk_put (cs := #[.string t260009, .int .i64 0]) ?_ 1 _ rfl; (with_reducible repeat (first | refine blk_drewN ?_ _ | refine blk_drew ?_ | refine blk_alloc ?_ _)); refine blk_put (cs := #[.string (⟨#[]⟩ : ByteArray), .int .i64 0]) ?_ 0 _ rfl; (with_reducible repeat (first | refine blk_drewN ?_ _ | refine blk_drew ?_ | refine blk_alloc ?_ _)); exact BK260012.out))⟩; have n5_ : Aside0 (Below w.heap.size w w44) := ⟨(by rw [hw]; exact (by repeat (first | (with_reducible first | exact HB.out | apply below_alloc | apply pw_below_drewN | apply below_drew1 | refine below_set ?_ GE260001.out | refine below_set ?_ GE260002.out | refine below_set ?_ GE260007.out | refine below_set ?_ GE260012.out) | exact HB.out)))⟩; clear hw; clear HO_7; clear BK260001; clear BK260002; clear BK260007; clear BK260012; clear HB; have HO_7 := n0_; have BK260001 := n1_; have BK260002 := n2_; have BK260007 := n3_; have BK260012 := n4_; have HB := n5_; clear n0_ n1_ n2_ n3_ n4_ n5_; have hcz45_0 : w44.cell? ⟨gb260012, 0, none⟩ = some (.string t260009) := (blk_cell BK260012.out 0).trans rfl; have hcz45_1 : w44.cell? ⟨gb260012, 1, none⟩ = some (.int .i64 t260010) := (blk_cell BK260012.out 1).trans rfl; have hfz45_0 := blk_frozen BK260012.out 0; have hfz45_1 := blk_frozen BK260012.out 1; have hcz46_0 : w44.cell? ⟨gb260007, 0, none⟩ = some (.string x260008000_1) := (blk_cell BK260007.out 0).trans rfl; have hcz46_1 : w44.cell? ⟨gb260007, 1, none⟩ = some (.int .i64 x260008001_1) := (blk_cell BK260007.out 1).trans rfl; have hfz46_0 := blk_frozen BK260007.out 0; have hfz46_1 := blk_frozen BK260007.out 1) | ((with_reducible refine gate_store (t := 23) (p := 8) rfl ?_); refine store_event (t := 23) (p := 8) (v := ?vo_w47) (w1 := ((w44.setCell ⟨gb260007, 0, none⟩ (.string t260009)).setCell ⟨gb260007, 1, none⟩ (.int .i64 t260010))) ?hg ?ho ?hn ?hr ?_; (case ho => rfl); (case hg => rfl); (case hn => rfl); (case hr => first | (go_simp; done) | (go_simp; rfl)); intro w47 hw; have n0_ : Aside0 (Kd.R (Kd.int .i64) 3 w47 w.heap.size (fun _ => True) v260005 x7_1) := ⟨(by rw [hw]; exact (by (with_reducible repeat (first | apply Kd.R_alloc | apply Kd.R_drewN | apply Kd.R_drew)); exact Kd.R_mono (Kd.R_far (p := ⟨gb260007, 1, none⟩) (Kd.R_far (p := ⟨gb260007, 0, none⟩) (Kd.R_types HO_7.out BK260007.out (by decide)) (fun _ hk => hk.2) (.string t260009)) (fun _ hk => hk.2) (.int .i64 t260010)) (fun _ hk => trivial)))⟩; have n1_ : Aside0 (w47.heap[gb260001]? = some (.cells #[.string a0_0, .int .i64 a0_1] 23 (0, 0))) := ⟨(by rw [hw]; exact (by (with_reducible repeat (first | refine blk_drewN ?_ _ | refine blk_drew ?_ | refine blk_alloc ?_ _)); refine blk_far ?_ NB260001_260007.out _; (with_reducible repeat (first | refine blk_drewN ?_ _ | refine blk_drew ?_ | refine blk_alloc ?_ _)); refine blk_far ?_ NB260001_260007.out _; (with_reducible repeat (first | refine blk_drewN ?_ _ | refine blk_drew ?_ | refine blk_alloc ?_ _)); exact BK260001.out))⟩; have n2_ : Aside0 (w47.heap[gb260002]? = some (.cells #[.string x260003000_1, .int .i64 x260003001_1] 23 (0, 0))) := ⟨(by rw [hw]; exact (by (with_reducible repeat (first | refine blk_drewN ?_ _ | refine blk_drew ?_ | refine blk_alloc ?_ _)); refine blk_far ?_ NB260002_260007.out _; (with_reducible repeat (first | refine blk_drewN ?_ _ | refine blk_drew ?_ | refine blk_alloc ?_ _)); refine blk_far ?_ NB260002_260007.out _; (with_reducible repeat (first | refine blk_drewN ?_ _ | refine blk_drew ?_ | refine blk_alloc ?_ _)); exact BK260002.out))⟩; have n3_ : Aside0 (w47.heap[gb260007]? = some (.cells #[.string t260009, .int .i64 t260010] 23 (0, 0))) := ⟨(by rw [hw]; exact (by (with_reducible repeat (first | refine blk_drewN ?_ _ | refine blk_drew ?_ | refine blk_alloc ?_ _)); refine blk_put (cs := #[.string t260009, .int .i64 x260008001_1]) ?_ 1 _ rfl; (with_reducible repeat (first | refine blk_drewN ?_ _ | refine blk_drew ?_ | refine blk_alloc ?_ _)); refine blk_put (cs := #[.string x260008000_1, .int .i64 x260008001_1]) ?_ 0 _ rfl; (with_reducible repeat (first | refine blk_drewN ?_ _ | refine blk_drew ?_ | refine blk_alloc ?_ _)); exact BK260007.out))⟩; have n4_ : Aside0 (w47.heap[gb260012]? = some (.cells #[.string t260009, .int .i64 t260010] 23 (0, 0))) := ⟨(by rw [hw]; exact (by (with_reducible repeat (first | refine blk_drewN ?_ _ | refine blk_drew ?_ | refine blk_alloc ?_ _)); refine blk_far ?_ NB260012_260007.out _; (with_reducible repeat (first | refine blk_drewN ?_ _ | refine blk_drew ?_ | refine blk_alloc ?_ _)); refine blk_far ?_ NB260012_260007.out _; (with_reducible repeat (first | refine blk_drewN ?_ _ | refine blk_drew ?_ | refine blk_alloc ?_ _)); exact BK260012.out))⟩; have n5_ : Aside0 (Below w.heap.size w w47) := ⟨(by rw [hw]; exact (by repeat (first | (with_reducible first | exact HB.out | apply below_alloc | apply pw_below_drewN | apply below_drew1 | refine below_set ?_ GE260001.out | refine below_set ?_ GE260002.out | refine below_set ?_ GE260007.out | refine below_set ?_ GE260012.out) | exact HB.out)))⟩; clear hw; clear HO_7; clear BK260001; clear BK260002; clear BK260007; clear BK260012; clear HB; have HO_7 := n0_; have BK260001 := n1_; have BK260002 := n2_; have BK260007 := n3_; have BK260012 := n4_; have HB := n5_; clear n0_ n1_ n2_ n3_ n4_ n5_; obtain ⟨Ao48, co48, eo48⟩ := Kd.R_slice HO_7.out; subst eo48; have p260013 : 0 ≤ (t260008 : Int) := of_decide_eq_true (by first | (with_reducible assumption) | assumption); have q260013 : t260008 < (x7_1.length : Int) := of_decide_eq_true (by first | (with_reducible assumption) | assumption); obtain ⟨ad260013, e260013, hx260013_0⟩ := Kd.at_int (Kd.R_reads' HO_7.out).2.2 t260008 p260013 q260013; cases e260013; replace p260013 := eq_true p260013; replace q260013 := eq_true q260013; have p260014 : 0 ≤ (x9_1 : Int) := of_decide_eq_true (by first | (with_reducible assumption) | assumption); have q260014 : x9_1 < (x7_1.length : Int) := of_decide_eq_true (by first | (with_reducible assumption) | assumption); obtain ⟨ad260014, e260014, hx260014_0⟩ := Kd.at_int (Kd.R_reads' HO_7.out).2.2 x9_1 p260014 q260014; obtain rfl : ad260013 = ad260014 := (by injection e260014); replace p260014 := eq_true p260014; replace q260014 := eq_true q260014; have p33 : 0 ≤ (t260008 : Int) := of_decide_eq_true (by first | (with_reducible assumption) | assumption); have q33 : (t260008 : Int) < ((x7_1.length : Int) : Int) := of_decide_eq_true (by first | (with_reducible assumption) | assumption); obtain ⟨go33, co33, eo33, gb33, gl33, cl33, HG33⟩ := Kd.R_form HO_7.out (by omega); (first | cases eo33 | (injection eo33 with ea_ en_ ec_; (first | subst ea_ | (injection ea_ with ea_; subst ea_)); subst ec_; clear en_)); have GB33 := Aside0.mk gb33; have GG33 := Aside0.mk HG33; clear gb33 gl33 HG33; (first | simp only [add_plain] at hx260013_0 | skip); (first | simp only [add_plain] at hx260014_0 | skip); obtain ⟨hx33_0, hf33_0⟩ := Kd.R_celln 0 HO_7.out (t260008 : Int) p33 q33; replace p33 := eq_true p33; replace q33 := eq_true q33; obtain ⟨hy49_, hz49_⟩ := Kd.R_celln 0 HO_7.out (t260008 : Int) (of_decide_eq_true (by first | (with_reducible assumption) | assumption)) (of_decide_eq_true (by first | (with_reducible assumption) | assumption)); have HP49 := Kd.R_putg HO_7.out (t260008 : Int) (rd x7_1 x9_1)) | ((with_reducible refine gate_store (t := 3) (p := 55) rfl ?_); refine store_event (t := 3) (p := 55) (v := ?vo_w50) (w1 := (w47.setCell ⟨go33, (t260008 : Int).toNat, none⟩ (.int .i64 (rd x7_1 x9_1)))) ?hg ?ho ?hn ?hr ?_; (case ho => rfl); (case hg => rfl); (case hn => rfl); (case hr => first | (go_simp; done) | (go_simp; rfl)); intro w50 hw; have hg : w47.grownBy w50 (some go33) := (by rw [hw]; exact HP49.2); have hp_ : Kd.R (Kd.int .i64) 3 w50 w.heap.size (fun _ => True) (.slice (some ⟨go33, 0, none⟩) x7_1.length co48) y260015 := (by rw [hw, Ny260015.out]; exact HP49.1); clear HP49; have n0_ := Aside0.mk (hp_); have n1_ := Aside0.mk (blk_grown (g := gb260001) (o := .cells #[.string a0_0, .int .i64 a0_1] 23 (0, 0)) (by (with_reducible repeat (first | refine blk_drewN ?_ _ | refine blk_drew ?_ | refine blk_alloc ?_ _)); exact BK260001.out) hg (Kd.R_ne HO_7.out BK260001.out (by decide))); have n2_ := Aside0.mk (blk_grown (g := gb260002) (o := .cells #[.string x260003000_1, .int .i64 x260003001_1] 23 (0, 0)) (by (with_reducible repeat (first | refine blk_drewN ?_ _ | refine blk_drew ?_ | refine blk_alloc ?_ _)); exact BK260002.out) hg (Kd.R_ne HO_7.out BK260002.out (by decide))); have n3_ := Aside0.mk (blk_grown (g := gb260007) (o := .cells #[.string t260009, .int .i64 t260010] 23 (0, 0)) (by (with_reducible repeat (first | refine blk_drewN ?_ _ | refine blk_drew ?_ | refine blk_alloc ?_ _)); exact BK260007.out) hg (Kd.R_ne HO_7.out BK260007.out (by decide))); have n4_ := Aside0.mk (blk_grown (g := gb260012) (o := .cells #[.string t260009, .int .i64 t260010] 23 (0, 0)) (by (with_reducible repeat (first | refine blk_drewN ?_ _ | refine blk_drew ?_ | refine blk_alloc ?_ _)); exact BK260012.out) hg (Kd.R_ne HO_7.out BK260012.out (by decide))); have n5_ := Aside0.mk ((by rw [hw]; exact below_set (HB.out) GB33.out : Below w.heap.size w w50)); clear HO_7; clear BK260001; clear BK260002; clear BK260007; clear BK260012; clear HB; have HO_7 := n0_; have BK260001 := n1_; have BK260002 := n2_; have BK260007 := n3_; have BK260012 := n4_; have HB := n5_; clear n0_ n1_ n2_ n3_ n4_ n5_; clear hg hw hp_; have p34 : 0 ≤ (x9_1 : Int) := of_decide_eq_true (by first | (with_reducible assumption) | assumption); have q34 : (x9_1 : Int) < ((x7_1.length : Int) : Int) := of_decide_eq_true (by first | (with_reducible assumption) | assumption); obtain ⟨hx34_0, hf34_0⟩ := Kd.R_celln 0 HO_7.out (x9_1 : Int) p34 q34; replace p34 := eq_true p34; replace q34 := eq_true q34; obtain ⟨hy51_, hz51_⟩ := Kd.R_celln 0 HO_7.out (x9_1 : Int) (of_decide_eq_true (by first | (with_reducible assumption) | assumption)) (of_decide_eq_true (by first | (with_reducible assumption) | assumption)); have HP51 := Kd.R_putg HO_7.out (x9_1 : Int) (rd x7_1 t260008)) | ((with_reducible refine gate_store (t := 3) (p := 59) rfl ?_); refine store_event (t := 3) (p := 59) (v := ?vo_w52) (w1 := (w50.setCell ⟨go33, (x9_1 : Int).toNat, none⟩ (.int .i64 (rd x7_1 t260008)))) ?hg ?ho ?hn ?hr ?_; (case ho => rfl); (case hg => rfl); (case hn => rfl); (case hr => first | (go_simp; done) | (go_simp; rfl)); intro w52 hw; have hg : w50.grownBy w52 (some go33) := (by rw [hw]; exact HP51.2); have hp_ : Kd.R (Kd.int .i64) 3 w52 w.heap.size (fun _ => True) (.slice (some ⟨go33, 0, none⟩) x7_1.length co48) y260016 := (by rw [hw, Ny260016.out]; exact HP51.1); clear HP51; have n0_ := Aside0.mk (hp_); have n1_ := Aside0.mk (blk_grown (g := gb260001) (o := .cells #[.string a0_0, .int .i64 a0_1] 23 (0, 0)) (by (with_reducible repeat (first | refine blk_drewN ?_ _ | refine blk_drew ?_ | refine blk_alloc ?_ _)); exact BK260001.out) hg (Kd.R_ne HO_7.out BK260001.out (by decide))); have n2_ := Aside0.mk (blk_grown (g := gb260002) (o := .cells #[.string x260003000_1, .int .i64 x260003001_1] 23 (0, 0)) (by (with_reducible repeat (first | refine blk_drewN ?_ _ | refine blk_drew ?_ | refine blk_alloc ?_ _)); exact BK260002.out) hg (Kd.R_ne HO_7.out BK260002.out (by decide))); have n3_ := Aside0.mk (blk_grown (g := gb260007) (o := .cells #[.string t260009, .int .i64 t260010] 23 (0, 0)) (by (with_reducible repeat (first | refine blk_drewN ?_ _ | refine blk_drew ?_ | refine blk_alloc ?_ _)); exact BK260007.out) hg (Kd.R_ne HO_7.out BK260007.out (by decide))); have n4_ := Aside0.mk (blk_grown (g := gb260012) (o := .cells #[.string t260009, .int .i64 t260010] 23 (0, 0)) (by (with_reducible repeat (first | refine blk_drewN ?_ _ | refine blk_drew ?_ | refine blk_alloc ?_ _)); exact BK260012.out) hg (Kd.R_ne HO_7.out BK260012.out (by decide))); have n5_ := Aside0.mk ((by rw [hw]; exact below_set (HB.out) GB33.out : Below w.heap.size w w52)); clear HO_7; clear BK260001; clear BK260002; clear BK260007; clear BK260012; clear HB; have HO_7 := n0_; have BK260001 := n1_; have BK260002 := n2_; have BK260007 := n3_; have BK260012 := n4_; have HB := n5_; clear n0_ n1_ n2_ n3_ n4_ n5_; clear hg hw hp_))
            go_roundg k1
            case measure => have := HK1.out; omega
            case rel => exact ⟨(y260016), (wrap64 (x9_1 - 1)), (x260003000_1), (x260003001_1), (t260009), (t260010), (by first | rfl | (simp; done) | (simp [*]; done)), H', ⟨by have := HK1.out; omega⟩, ⟨by (with_reducible repeat (first | apply Kd.R_alloc | apply Kd.R_drewN | apply Kd.R_drew)); exact HO_7.out⟩, ⟨by (with_reducible repeat (first | refine blk_drewN ?_ _ | refine blk_drew ?_ | refine blk_alloc ?_ _)); exact BK260001.out⟩, ⟨by (with_reducible repeat (first | refine blk_drewN ?_ _ | refine blk_drew ?_ | refine blk_alloc ?_ _)); exact BK260002.out⟩, ⟨by (with_reducible repeat (first | refine blk_drewN ?_ _ | refine blk_drew ?_ | refine blk_alloc ?_ _)); exact BK260007.out⟩, ⟨by repeat (first | (with_reducible first | exact HB.out | apply below_alloc | apply pw_below_drewN | apply below_drew1 | refine below_set ?_ GE260001.out | refine below_set ?_ GE260002.out | refine below_set ?_ GE260007.out | refine below_set ?_ GE260012.out) | exact HB.out)⟩⟩
           ·rw [if_neg c32] at H
            exact absurd H (by simp)
          ·rw [if_neg c31] at H
           exact absurd H (by simp)
         ·rw [if_neg c30] at H
          exact absurd H (by simp)
        ·rw [if_neg c29] at H
         exact absurd H (by simp)
       ·rw [if_neg c28] at H
        have c28b0 : (t260011 == 0) = false := beq_eq_false_iff_ne.mpr c28
        have c28b1 : (t260011 != 0) = true := bne_iff_ne.mpr c28
        simp only [Option.some.injEq, Prod.mk.injEq] at H
        obtain ⟨rfl, rfl, rfl, rfl⟩ := H
        have hnb53 := NB260007_260001.out
        have hnc53 := NB260001_260007.out
        have hnb54 := NB260007_260002.out
        have hnc54 := NB260002_260007.out
        have hcz55_0 : wr.cell? ⟨gb260007, 0, none⟩ = some (.string x260008000_1) := (blk_cell BK260007.out 0).trans rfl
        have hcz55_1 : wr.cell? ⟨gb260007, 1, none⟩ = some (.int .i64 x260008001_1) := (blk_cell BK260007.out 1).trans rfl
        have hfz55_0 := blk_frozen BK260007.out 0
        have hfz55_1 := blk_frozen BK260007.out 1
        try go_wp2_with (first | ((with_reducible refine gate_callee (f := 24) rfl ?_); refine goesL_ (some 36) rfl rfl Try.func24 (by kernel_rfl) rfl #[.agg #[.string x260008000_1, .int .i64 x260008001_1], .int .i64 (wrap64 (x9_1 + 1))] rfl (by (try simp only [List.map_toArray, List.map_cons, List.map_nil]); first | done | rfl | (simp only [List.length_drop, List.length_take]; rfl)) ?_; (with_reducible refine (columbariumref07_Number.calls k1 x260008000_1 x260008001_1 (wrap64 (x9_1 + 1)) t260008 t260009 t260010 t260011 _ A27.out).mono ?_); rintro e w56 ⟨rfl, hb⟩; refine ⟨_, rfl, ?_⟩; have n0_ := Aside0.mk (Kd.R_below (by (with_reducible repeat (first | apply Kd.R_alloc | apply Kd.R_drewN | apply Kd.R_drew)); exact HO_7.out) hb); have n1_ := Aside0.mk (blk_below (g := gb260001) (o := .cells #[.string a0_0, .int .i64 a0_1] 23 (0, 0)) (by (with_reducible repeat (first | refine blk_drewN ?_ _ | refine blk_drew ?_ | refine blk_alloc ?_ _)); exact BK260001.out) hb); have n2_ := Aside0.mk (blk_below (g := gb260002) (o := .cells #[.string x260003000_1, .int .i64 x260003001_1] 23 (0, 0)) (by (with_reducible repeat (first | refine blk_drewN ?_ _ | refine blk_drew ?_ | refine blk_alloc ?_ _)); exact BK260002.out) hb); have n3_ := Aside0.mk (blk_below (g := gb260007) (o := .cells #[.string x260008000_1, .int .i64 x260008001_1] 23 (0, 0)) (by (with_reducible repeat (first | refine blk_drewN ?_ _ | refine blk_drew ?_ | refine blk_alloc ?_ _)); exact BK260007.out) hb); have n4_ := Aside0.mk (below_step (by repeat (first | (with_reducible first | exact HB.out | apply below_alloc | apply pw_below_drewN | apply below_drew1 | refine below_set ?_ GE260001.out | refine below_set ?_ GE260002.out | refine below_set ?_ GE260007.out) | exact HB.out)) hb); clear HO_7; clear BK260001; clear BK260002; clear BK260007; clear HB; have HO_7 := n0_; have BK260001 := n1_; have BK260002 := n2_; have BK260007 := n3_; have HB := n4_; clear n0_ n1_ n2_ n3_ n4_; (try clear hb); (try clear hb2); (try clear hk); (try clear hi)) | ((with_reducible refine gate_dst (N := 11) rfl ?_); refine box_event ?hg (N := 11) ?hd (cs := #[.string (⟨#[]⟩ : ByteArray), .int .i64 0]) (t := 23) ?hr ?_; (case hd => rfl); (case hg => rfl); (case hr => first | (go_simp; done) | (go_simp; rfl)); intro gb260012 hg w57 hbox hb; have n0_ := Aside0.mk (Kd.R_below (by (with_reducible repeat (first | apply Kd.R_alloc | apply Kd.R_drewN | apply Kd.R_drew)); exact HO_7.out) hb); have n1_ := Aside0.mk (blk_below (g := gb260001) (o := .cells #[.string a0_0, .int .i64 a0_1] 23 (0, 0)) (by (with_reducible repeat (first | refine blk_drewN ?_ _ | refine blk_drew ?_ | refine blk_alloc ?_ _)); exact BK260001.out) hb); have n2_ := Aside0.mk (blk_below (g := gb260002) (o := .cells #[.string x260003000_1, .int .i64 x260003001_1] 23 (0, 0)) (by (with_reducible repeat (first | refine blk_drewN ?_ _ | refine blk_drew ?_ | refine blk_alloc ?_ _)); exact BK260002.out) hb); have n3_ := Aside0.mk (blk_below (g := gb260007) (o := .cells #[.string x260008000_1, .int .i64 x260008001_1] 23 (0, 0)) (by (with_reducible repeat (first | refine blk_drewN ?_ _ | refine blk_drew ?_ | refine blk_alloc ?_ _)); exact BK260007.out) hb); have n4_ := Aside0.mk (below_step (by repeat (first | (with_reducible first | exact HB.out | apply below_alloc | apply pw_below_drewN | apply below_drew1 | refine below_set ?_ GE260001.out | refine below_set ?_ GE260002.out | refine below_set ?_ GE260007.out) | exact HB.out)) hb); have n5_ := Aside0.mk (hbox); have n6_ := Aside0.mk ((by rw [hg]; exact (below_size (by repeat (first | (with_reducible first | exact HB.out | apply below_alloc | apply pw_below_drewN | apply below_drew1 | refine below_set ?_ GE260001.out | refine below_set ?_ GE260002.out | refine below_set ?_ GE260007.out) | exact HB.out))) : w.heap.size ≤ gb260012)); have n7_ := Aside0.mk ((by rw [hg]; exact (below_size (by repeat (first | (with_reducible first | exact HB.out | apply below_alloc | apply pw_below_drewN | apply below_drew1 | refine below_set ?_ GE260001.out | refine below_set ?_ GE260002.out | refine below_set ?_ GE260007.out) | exact HB.out))) : w.heap.size ≤ gb260012)); have n8_ := Aside0.mk ((by rw [hg]; exact Nat.ne_of_lt (blk_lt (g := gb260001) (o := .cells #[.string a0_0, .int .i64 a0_1] 23 (0, 0)) (by (with_reducible repeat (first | refine blk_drewN ?_ _ | refine blk_drew ?_ | refine blk_alloc ?_ _)); exact BK260001.out)) : gb260001 ≠ gb260012)); have n9_ := Aside0.mk ((by rw [hg]; exact Nat.ne_of_gt (blk_lt (g := gb260001) (o := .cells #[.string a0_0, .int .i64 a0_1] 23 (0, 0)) (by (with_reducible repeat (first | refine blk_drewN ?_ _ | refine blk_drew ?_ | refine blk_alloc ?_ _)); exact BK260001.out)) : gb260012 ≠ gb260001)); have n10_ := Aside0.mk ((by rw [hg]; exact Nat.ne_of_lt (blk_lt (g := gb260002) (o := .cells #[.string x260003000_1, .int .i64 x260003001_1] 23 (0, 0)) (by (with_reducible repeat (first | refine blk_drewN ?_ _ | refine blk_drew ?_ | refine blk_alloc ?_ _)); exact BK260002.out)) : gb260002 ≠ gb260012)); have n11_ := Aside0.mk ((by rw [hg]; exact Nat.ne_of_gt (blk_lt (g := gb260002) (o := .cells #[.string x260003000_1, .int .i64 x260003001_1] 23 (0, 0)) (by (with_reducible repeat (first | refine blk_drewN ?_ _ | refine blk_drew ?_ | refine blk_alloc ?_ _)); exact BK260002.out)) : gb260012 ≠ gb260002)); have n12_ := Aside0.mk ((by rw [hg]; exact Nat.ne_of_lt (blk_lt (g := gb260007) (o := .cells #[.string x260008000_1, .int .i64 x260008001_1] 23 (0, 0)) (by (with_reducible repeat (first | refine blk_drewN ?_ _ | refine blk_drew ?_ | refine blk_alloc ?_ _)); exact BK260007.out)) : gb260007 ≠ gb260012)); have n13_ := Aside0.mk ((by rw [hg]; exact Nat.ne_of_gt (blk_lt (g := gb260007) (o := .cells #[.string x260008000_1, .int .i64 x260008001_1] 23 (0, 0)) (by (with_reducible repeat (first | refine blk_drewN ?_ _ | refine blk_drew ?_ | refine blk_alloc ?_ _)); exact BK260007.out)) : gb260012 ≠ gb260007)); clear HO_7; clear BK260001; clear BK260002; clear BK260007; clear HB; have HO_7 := n0_; have BK260001 := n1_; have BK260002 := n2_; have BK260007 := n3_; have HB := n4_; have BK260012 := n5_; have GW260012 := n6_; have GE260012 := n7_; have NB260001_260012 := n8_; have NB260012_260001 := n9_; have NB260002_260012 := n10_; have NB260012_260002 := n11_; have NB260007_260012 := n12_; have NB260012_260007 := n13_; clear n0_ n1_ n2_ n3_ n4_ n5_ n6_ n7_ n8_ n9_ n10_ n11_ n12_ n13_; clear hb hbox hg; have hnb58 := NB260012_260001.out; have hnc58 := NB260001_260012.out; have hnb59 := NB260012_260002.out; have hnc59 := NB260002_260012.out; have hnb60 := NB260012_260007.out; have hnc60 := NB260007_260012.out; have hcz61_0 : w57.cell? ⟨gb260012, 0, none⟩ = some (.string (⟨#[]⟩ : ByteArray)) := (blk_cell BK260012.out 0).trans rfl; have hcz61_1 : w57.cell? ⟨gb260012, 1, none⟩ = some (.int .i64 0) := (blk_cell BK260012.out 1).trans rfl; have hfz61_0 := blk_frozen BK260012.out 0; have hfz61_1 := blk_frozen BK260012.out 1))
        have n0_ : Aside0 (Kd.R (Kd.int .i64) 3 ((w57.setCell ⟨gb260012, 0, none⟩ (.string t260009)).setCell ⟨gb260012, 1, none⟩ (.int .i64 t260010)) w.heap.size (fun _ => True) v260005 x7_1) := ⟨by (with_reducible repeat (first | apply Kd.R_alloc | apply Kd.R_drewN | apply Kd.R_drew)); exact Kd.R_mono (Kd.R_far (p := ⟨gb260012, 1, none⟩) (Kd.R_far (p := ⟨gb260012, 0, none⟩) (Kd.R_types HO_7.out BK260012.out (by decide)) (fun _ hk => hk.2) (.string t260009)) (fun _ hk => hk.2) (.int .i64 t260010)) (fun _ hk => trivial)⟩
        have n1_ : Aside0 (((w57.setCell ⟨gb260012, 0, none⟩ (.string t260009)).setCell ⟨gb260012, 1, none⟩ (.int .i64 t260010)).heap[gb260001]? = some (.cells #[.string a0_0, .int .i64 a0_1] 23 (0, 0))) := ⟨by (with_reducible repeat (first | refine blk_drewN ?_ _ | refine blk_drew ?_ | refine blk_alloc ?_ _)); refine blk_far ?_ NB260001_260012.out _; (with_reducible repeat (first | refine blk_drewN ?_ _ | refine blk_drew ?_ | refine blk_alloc ?_ _)); refine blk_far ?_ NB260001_260012.out _; (with_reducible repeat (first | refine blk_drewN ?_ _ | refine blk_drew ?_ | refine blk_alloc ?_ _)); exact BK260001.out⟩
        have n2_ : Aside0 (((w57.setCell ⟨gb260012, 0, none⟩ (.string t260009)).setCell ⟨gb260012, 1, none⟩ (.int .i64 t260010)).heap[gb260002]? = some (.cells #[.string x260003000_1, .int .i64 x260003001_1] 23 (0, 0))) := ⟨by (with_reducible repeat (first | refine blk_drewN ?_ _ | refine blk_drew ?_ | refine blk_alloc ?_ _)); refine blk_far ?_ NB260002_260012.out _; (with_reducible repeat (first | refine blk_drewN ?_ _ | refine blk_drew ?_ | refine blk_alloc ?_ _)); refine blk_far ?_ NB260002_260012.out _; (with_reducible repeat (first | refine blk_drewN ?_ _ | refine blk_drew ?_ | refine blk_alloc ?_ _)); exact BK260002.out⟩
        have n3_ : Aside0 (((w57.setCell ⟨gb260012, 0, none⟩ (.string t260009)).setCell ⟨gb260012, 1, none⟩ (.int .i64 t260010)).heap[gb260007]? = some (.cells #[.string x260008000_1, .int .i64 x260008001_1] 23 (0, 0))) := ⟨by (with_reducible repeat (first | refine blk_drewN ?_ _ | refine blk_drew ?_ | refine blk_alloc ?_ _)); refine blk_far ?_ NB260007_260012.out _; (with_reducible repeat (first | refine blk_drewN ?_ _ | refine blk_drew ?_ | refine blk_alloc ?_ _)); refine blk_far ?_ NB260007_260012.out _; (with_reducible repeat (first | refine blk_drewN ?_ _ | refine blk_drew ?_ | refine blk_alloc ?_ _)); exact BK260007.out⟩
        have n4_ : Aside0 (((w57.setCell ⟨gb260012, 0, none⟩ (.string t260009)).setCell ⟨gb260012, 1, none⟩ (.int .i64 t260010)).heap[gb260012]? = some (.cells #[.string t260009, .int .i64 t260010] 23 (0, 0))) := ⟨by (with_reducible repeat (first | refine blk_drewN ?_ _ | refine blk_drew ?_ | refine blk_alloc ?_ _)); refine blk_put (cs := #[.string t260009, .int .i64 0]) ?_ 1 _ rfl; (with_reducible repeat (first | refine blk_drewN ?_ _ | refine blk_drew ?_ | refine blk_alloc ?_ _)); refine blk_put (cs := #[.string (⟨#[]⟩ : ByteArray), .int .i64 0]) ?_ 0 _ rfl; (with_reducible repeat (first | refine blk_drewN ?_ _ | refine blk_drew ?_ | refine blk_alloc ?_ _)); exact BK260012.out⟩
        have n5_ : Aside0 (Below w.heap.size w ((w57.setCell ⟨gb260012, 0, none⟩ (.string t260009)).setCell ⟨gb260012, 1, none⟩ (.int .i64 t260010))) := ⟨by repeat (first | (with_reducible first | exact HB.out | apply below_alloc | apply pw_below_drewN | apply below_drew1 | refine below_set ?_ GE260001.out | refine below_set ?_ GE260002.out | refine below_set ?_ GE260007.out | refine below_set ?_ GE260012.out) | exact HB.out)⟩
        (try clear HO_7)
        (try clear BK260001)
        (try clear BK260002)
        (try clear BK260007)
        (try clear BK260012)
        (try clear HB)
        generalize ((w57.setCell ⟨gb260012, 0, none⟩ (.string t260009)).setCell ⟨gb260012, 1, none⟩ (.int .i64 t260010)) = w62 at n0_ n1_ n2_ n3_ n4_ n5_ ⊢
        have HO_7 := n0_
        have BK260001 := n1_
        have BK260002 := n2_
        have BK260007 := n3_
        have BK260012 := n4_
        have HB := n5_
        clear n0_ n1_ n2_ n3_ n4_ n5_
        have n0_ := Aside0.mk (Kd.R_drew HO_7.out)
        have n1_ := Aside0.mk (blk_drew BK260001.out)
        have n2_ := Aside0.mk (blk_drew BK260002.out)
        have n3_ := Aside0.mk (blk_drew BK260007.out)
        have n4_ := Aside0.mk (blk_drew BK260012.out)
        have n5_ := Aside0.mk (below_drew1 HB.out)
        clear HO_7
        clear BK260001
        clear BK260002
        clear BK260007
        clear BK260012
        clear HB
        have HO_7 := n0_
        have BK260001 := n1_
        have BK260002 := n2_
        have BK260007 := n3_
        have BK260012 := n4_
        have HB := n5_
        clear n0_ n1_ n2_ n3_ n4_ n5_
        refine start_ (n := 5) (S := fun w' => w'.cell? ⟨gb260001, 0, none⟩ = some (.string a0_0) ∧ w'.cell? ⟨gb260001, 1, none⟩ = some (.int .i64 a0_1)) (ds := []) #[false, false, false, false, false] (by kernel_rfl) rfl rfl ⟨(blk_cell BK260001.out 0).trans rfl, (blk_cell BK260001.out 1).trans rfl⟩ (fun hHeld => ?_)
        generalize w62.drew = w63 at HO_7 BK260001 BK260002 BK260007 BK260012 HB hHeld ⊢
        refine pure_ (i := 1) (N := some 43) (v := ?_) (a' := ?_) #[false, true, false, false, false] rfl rfl (by kernel_rfl) (fun _ _ _ h => h) (Or.inl ⟨by rfl, ?_⟩) ?_ ?_
        rotate_left
        ·intro w'
         go_simp
         with_reducible rfl
        rotate_left
        ·simp only [Act.put, List.setIfInBounds_toArray, List.set_cons_zero, List.set_cons_succ, i64_w, i32_w]
         rfl
        refine pure_ (i := 2) (N := some 4) (v := ?_) (a' := ?_) #[false, true, true, false, false] rfl rfl (by kernel_rfl) (fun _ _ _ h => h) (Or.inl ⟨by rfl, ?_⟩) ?_ ?_
        rotate_left
        ·intro w'
         go_simp
         with_reducible rfl
        rotate_left
        ·simp only [Act.put, List.setIfInBounds_toArray, List.set_cons_zero, List.set_cons_succ, i64_w, i32_w]
         rfl
        refine take_ (i := 0) (N := some 42) (v := ?_) (a' := ?_) #[true, true, true, false, false] rfl rfl (by kernel_rfl) (fun _ _ _ h => h) (Or.inl ⟨by rfl, ?_⟩) hHeld ?_ ?_
        rotate_left
        ·rintro w' ⟨s0, s1⟩
         go_simp
         with_reducible rfl
        rotate_left
        ·simp only [Act.put, List.setIfInBounds_toArray, List.set_cons_zero, List.set_cons_succ, i64_w, i32_w]
         rfl
        refine one_ (i := 3) (N := none) #[true, true, true, true, false] rfl rfl (by kernel_rfl) (by decide) (fun K hK => ?_)
        have hs64 : w63.cell? ⟨gb260002, 0, none⟩ = some (.string x260003000_1) := (blk_cell BK260002.out 0).trans rfl
        have hfs64 := blk_frozen BK260002.out 0
        have hns64_0 := NB260001_260002.out
        have hns64_2 := NB260007_260002.out
        have hns64_3 := NB260012_260002.out
        have hms64_0 := NB260002_260001.out
        have hms64_2 := NB260002_260007.out
        have hms64_3 := NB260002_260012.out
        have hs65 : w63.cell? ⟨gb260002, 1, none⟩ = some (.int .i64 x260003001_1) := (blk_cell BK260002.out 1).trans rfl
        have hfs65 := blk_frozen BK260002.out 1
        have hns65_0 := NB260001_260002.out
        have hns65_2 := NB260007_260002.out
        have hns65_3 := NB260012_260002.out
        have hms65_0 := NB260002_260001.out
        have hms65_2 := NB260002_260007.out
        have hms65_3 := NB260002_260012.out
        refine skip_ (w1 := ?_) (by rfl) rfl ?_ ?_
        rotate_left
        ·go_simp
         rfl
        refine hK.out _ _ ⟨((cell_far (p := ⟨gb260002, _, none⟩) NB260001_260002.out _).trans (((cell_far (p := ⟨gb260002, _, none⟩) NB260001_260002.out _).trans (hHeld.1)))), ((cell_far (p := ⟨gb260002, _, none⟩) NB260001_260002.out _).trans (((cell_far (p := ⟨gb260002, _, none⟩) NB260001_260002.out _).trans (hHeld.2))))⟩ (fun hHeld => ?_)
        clear hK K
        refine pure_ (i := 4) (N := some 6) (v := ?_) (a' := ?_) #[true, true, true, true, true] rfl rfl (by kernel_rfl) (fun _ _ _ h => h) (Or.inl ⟨by rfl, ?_⟩) ?_ ?_
        rotate_left
        ·intro w'
         go_simp
         with_reducible rfl
        rotate_left
        ·simp only [Act.put, List.setIfInBounds_toArray, List.set_cons_zero, List.set_cons_succ, i64_w, i32_w]
         rfl
        refine done_ (by kernel_rfl) ?_
        try go_wp2
        refine bodyPost_ret (results_list (rs := [.tmp 4, .cell 5 23, .tmp 6]) rfl (by simp) (.tmp (.cell gb260002 23 #[.string a0_0, .int .i64 a0_1] (0, 0) _ rfl (by (with_reducible repeat (first | refine blk_drewN ?_ _ | refine blk_drew ?_ | refine blk_alloc ?_ _)); refine blk_put (cs := #[.string a0_0, .int .i64 x260003001_1]) ?_ 1 _ rfl; (with_reducible repeat (first | refine blk_drewN ?_ _ | refine blk_drew ?_ | refine blk_alloc ?_ _)); refine blk_put (cs := #[.string x260003000_1, .int .i64 x260003001_1]) ?_ 0 _ rfl; (with_reducible repeat (first | refine blk_drewN ?_ _ | refine blk_drew ?_ | refine blk_alloc ?_ _)); exact BK260002.out) Try.underlying23 rfl (by kernel_rfl) (.tmp .nil)))) rfl ?_
        exact ⟨_, by first | rfl | (simp [errW_none, errW_some] <;> rfl) | (simp [*, errW_none, errW_some] <;> rfl), by first | exact Kd.R_nil _ _ _ _ _ | exact Kd.N_nil _ _ _ _ _ | exact Kd.V_nil _ _ _ _ _ | exact Kd.Q_nil _ _ _ _ _ | exact Kd.S_nil _ _ _ _ _, by repeat (first | (with_reducible first | exact HB.out | apply below_alloc | apply pw_below_drewN | apply below_drew1 | refine below_set ?_ GE260001.out | refine below_set ?_ GE260002.out | refine below_set ?_ GE260007.out | refine below_set ?_ GE260012.out) | exact HB.out)⟩
      ·rw [if_neg c26] at H
       have c26b0 : decide (1 ≤ x9_1) = false := decide_eq_false c26
       clear c26
       simp only [Option.some.injEq, Prod.mk.injEq] at H
       obtain ⟨rfl, rfl, rfl, rfl⟩ := H
       try go_wp2
       have n0_ := Aside0.mk (Kd.R_drew HO_7.out)
       have n1_ := Aside0.mk (blk_drew BK260001.out)
       have n2_ := Aside0.mk (blk_drew BK260002.out)
       have n3_ := Aside0.mk (blk_drew BK260007.out)
       have n4_ := Aside0.mk (below_drew1 HB.out)
       clear HO_7
       clear BK260001
       clear BK260002
       clear BK260007
       clear HB
       have HO_7 := n0_
       have BK260001 := n1_
       have BK260002 := n2_
       have BK260007 := n3_
       have HB := n4_
       clear n0_ n1_ n2_ n3_ n4_
       refine start_ (n := 5) (S := fun w' => w'.cell? ⟨gb260007, 0, none⟩ = some (.string x260008000_1) ∧ w'.cell? ⟨gb260007, 1, none⟩ = some (.int .i64 x260008001_1)) (ds := []) #[false, false, false, false, false] (by kernel_rfl) rfl rfl ⟨(blk_cell BK260007.out 0).trans rfl, (blk_cell BK260007.out 1).trans rfl⟩ (fun hHeld => ?_)
       generalize wr.drew = w66 at HO_7 BK260001 BK260002 BK260007 HB hHeld ⊢
       refine pure_ (i := 0) (N := some 60) (v := ?_) (a' := ?_) #[true, false, false, false, false] rfl rfl (by kernel_rfl) (fun _ _ _ h => h) (Or.inl ⟨by rfl, ?_⟩) ?_ ?_
       rotate_left
       ·intro w'
        go_simp
        with_reducible rfl
       rotate_left
       ·simp only [Act.put, List.setIfInBounds_toArray, List.set_cons_zero, List.set_cons_succ, i64_w, i32_w]
        rfl
       refine pure_ (i := 2) (N := some 4) (v := ?_) (a' := ?_) #[true, false, true, false, false] rfl rfl (by kernel_rfl) (fun _ _ _ h => h) (Or.inl ⟨by rfl, ?_⟩) ?_ ?_
       rotate_left
       ·intro w'
        go_simp
        with_reducible rfl
       rotate_left
       ·simp only [Act.put, List.setIfInBounds_toArray, List.set_cons_zero, List.set_cons_succ, i64_w, i32_w]
        rfl
       refine take_ (i := 1) (N := some 61) (v := ?_) (a' := ?_) #[true, true, true, false, false] rfl rfl (by kernel_rfl) (fun _ _ _ h => h) (Or.inl ⟨by rfl, ?_⟩) hHeld ?_ ?_
       rotate_left
       ·rintro w' ⟨s0, s1⟩
        go_simp
        with_reducible rfl
       rotate_left
       ·simp only [Act.put, List.setIfInBounds_toArray, List.set_cons_zero, List.set_cons_succ, i64_w, i32_w]
        rfl
       refine one_ (i := 3) (N := none) #[true, true, true, true, false] rfl rfl (by kernel_rfl) (by decide) (fun K hK => ?_)
       have hs67 : w66.cell? ⟨gb260002, 0, none⟩ = some (.string x260003000_1) := (blk_cell BK260002.out 0).trans rfl
       have hfs67 := blk_frozen BK260002.out 0
       have hns67_0 := NB260001_260002.out
       have hns67_2 := NB260007_260002.out
       have hms67_0 := NB260002_260001.out
       have hms67_2 := NB260002_260007.out
       have hs68 : w66.cell? ⟨gb260002, 1, none⟩ = some (.int .i64 x260003001_1) := (blk_cell BK260002.out 1).trans rfl
       have hfs68 := blk_frozen BK260002.out 1
       have hns68_0 := NB260001_260002.out
       have hns68_2 := NB260007_260002.out
       have hms68_0 := NB260002_260001.out
       have hms68_2 := NB260002_260007.out
       refine skip_ (w1 := ?_) (by rfl) rfl ?_ ?_
       rotate_left
       ·go_simp
        rfl
       refine hK.out _ _ ⟨((cell_far (p := ⟨gb260002, _, none⟩) NB260007_260002.out _).trans (((cell_far (p := ⟨gb260002, _, none⟩) NB260007_260002.out _).trans (hHeld.1)))), ((cell_far (p := ⟨gb260002, _, none⟩) NB260007_260002.out _).trans (((cell_far (p := ⟨gb260002, _, none⟩) NB260007_260002.out _).trans (hHeld.2))))⟩ (fun hHeld => ?_)
       clear hK K
       refine pure_ (i := 4) (N := some 6) (v := ?_) (a' := ?_) #[true, true, true, true, true] rfl rfl (by kernel_rfl) (fun _ _ _ h => h) (Or.inl ⟨by rfl, ?_⟩) ?_ ?_
       rotate_left
       ·intro w'
        go_simp
        with_reducible rfl
       rotate_left
       ·simp only [Act.put, List.setIfInBounds_toArray, List.set_cons_zero, List.set_cons_succ, i64_w, i32_w]
        rfl
       refine done_ (by kernel_rfl) ?_
       try go_wp2
       refine bodyPost_ret (results_list (rs := [.tmp 4, .cell 5 23, .tmp 6]) rfl (by simp) (.tmp (.cell gb260002 23 #[.string x260008000_1, .int .i64 x260008001_1] (0, 0) _ rfl (by (with_reducible repeat (first | refine blk_drewN ?_ _ | refine blk_drew ?_ | refine blk_alloc ?_ _)); refine blk_put (cs := #[.string x260008000_1, .int .i64 x260003001_1]) ?_ 1 _ rfl; (with_reducible repeat (first | refine blk_drewN ?_ _ | refine blk_drew ?_ | refine blk_alloc ?_ _)); refine blk_put (cs := #[.string x260003000_1, .int .i64 x260003001_1]) ?_ 0 _ rfl; (with_reducible repeat (first | refine blk_drewN ?_ _ | refine blk_drew ?_ | refine blk_alloc ?_ _)); exact BK260002.out) Try.underlying23 rfl (by kernel_rfl) (.tmp .nil)))) rfl ?_
       exact ⟨_, by first | rfl | (simp [errW_none, errW_some] <;> rfl) | (simp [*, errW_none, errW_some] <;> rfl), by (with_reducible repeat (first | apply Kd.R_alloc | apply Kd.R_drewN | apply Kd.R_drew)); exact Kd.R_mono (Kd.R_far (p := ⟨gb260002, 1, none⟩) (Kd.R_far (p := ⟨gb260002, 0, none⟩) (Kd.R_types HO_7.out BK260002.out (by decide)) (fun _ hk => hk.2) (.string x260008000_1)) (fun _ hk => hk.2) (.int .i64 x260008001_1)) (fun _ hk => trivial), by repeat (first | (with_reducible first | exact HB.out | apply below_alloc | apply pw_below_drewN | apply below_drew1 | refine below_set ?_ GE260001.out | refine below_set ?_ GE260002.out | refine below_set ?_ GE260007.out) | exact HB.out)⟩
   ·rw [if_neg c14] at H
    exact absurd H (by simp)
 ·replace c4 := Bool.eq_false_iff.mpr c4
  subst c4
  have H1 : (some (([] : List Int), a0_0, a0_1, 1)) = some (r1, r2, r3, r4) := by rw [if_neg (show ¬ (false = true) by decide)] at H; exact H
  clear H
  have H := H1
  clear H1
  simp only [Option.some.injEq, Prod.mk.injEq] at H
  obtain ⟨rfl, rfl, rfl, rfl⟩ := H
  go_enter Try.func26, Try.ntmps26
  try go_wp2_with (first | ((with_reducible refine gate_dst (N := 2) rfl ?_); refine box_event ?hg (N := 2) ?hd (cs := #[.string a0_0, .int .i64 a0_1]) (t := 23) ?hr ?_; (case hd => rfl); (case hg => rfl); (case hr => first | (go_simp; done) | (go_simp; rfl)); intro gb260001 hg w69 hbox hb; have n0_ := Aside0.mk (below_step (by repeat (first | (with_reducible first | exact HB.out | apply below_alloc | apply pw_below_drewN | apply below_drew1) | exact HB.out)) hb); have n1_ := Aside0.mk (hbox); have n2_ := Aside0.mk ((by rw [hg]; exact (below_size (by repeat (first | (with_reducible first | exact HB.out | apply below_alloc | apply pw_below_drewN | apply below_drew1) | exact HB.out))) : w.heap.size ≤ gb260001)); have n3_ := Aside0.mk ((by rw [hg]; exact (below_size (by repeat (first | (with_reducible first | exact HB.out | apply below_alloc | apply pw_below_drewN | apply below_drew1) | exact HB.out))) : w.heap.size ≤ gb260001)); clear HB; have HB := n0_; have BK260001 := n1_; have GW260001 := n2_; have GE260001 := n3_; clear n0_ n1_ n2_ n3_; clear hb hbox hg) | ((with_reducible refine gate_dst (N := 5) rfl ?_); refine box_event ?hg (N := 5) ?hd (cs := #[.string (⟨#[]⟩ : ByteArray), .int .i64 0]) (t := 23) ?hr ?_; (case hd => rfl); (case hg => rfl); (case hr => first | (go_simp; done) | (go_simp; rfl)); intro gb260002 hg w70 hbox hb; have n0_ := Aside0.mk (blk_below (g := gb260001) (o := .cells #[.string a0_0, .int .i64 a0_1] 23 (0, 0)) (by (with_reducible repeat (first | refine blk_drewN ?_ _ | refine blk_drew ?_ | refine blk_alloc ?_ _)); exact BK260001.out) hb); have n1_ := Aside0.mk (below_step (by repeat (first | (with_reducible first | exact HB.out | apply below_alloc | apply pw_below_drewN | apply below_drew1 | refine below_set ?_ GE260001.out) | exact HB.out)) hb); have n2_ := Aside0.mk (hbox); have n3_ := Aside0.mk ((by rw [hg]; exact (below_size (by repeat (first | (with_reducible first | exact HB.out | apply below_alloc | apply pw_below_drewN | apply below_drew1 | refine below_set ?_ GE260001.out) | exact HB.out))) : w.heap.size ≤ gb260002)); have n4_ := Aside0.mk ((by rw [hg]; exact (below_size (by repeat (first | (with_reducible first | exact HB.out | apply below_alloc | apply pw_below_drewN | apply below_drew1 | refine below_set ?_ GE260001.out) | exact HB.out))) : w.heap.size ≤ gb260002)); have n5_ := Aside0.mk ((by rw [hg]; exact Nat.ne_of_lt (blk_lt (g := gb260001) (o := .cells #[.string a0_0, .int .i64 a0_1] 23 (0, 0)) (by (with_reducible repeat (first | refine blk_drewN ?_ _ | refine blk_drew ?_ | refine blk_alloc ?_ _)); exact BK260001.out)) : gb260001 ≠ gb260002)); have n6_ := Aside0.mk ((by rw [hg]; exact Nat.ne_of_gt (blk_lt (g := gb260001) (o := .cells #[.string a0_0, .int .i64 a0_1] 23 (0, 0)) (by (with_reducible repeat (first | refine blk_drewN ?_ _ | refine blk_drew ?_ | refine blk_alloc ?_ _)); exact BK260001.out)) : gb260002 ≠ gb260001)); clear BK260001; clear HB; have BK260001 := n0_; have HB := n1_; have BK260002 := n2_; have GW260002 := n3_; have GE260002 := n4_; have NB260001_260002 := n5_; have NB260002_260001 := n6_; clear n0_ n1_ n2_ n3_ n4_ n5_ n6_; clear hb hbox hg; have hnb71 := NB260001_260002.out; have hnc71 := NB260002_260001.out; have hcz72_0 : w70.cell? ⟨gb260001, 0, none⟩ = some (.string a0_0) := (blk_cell BK260001.out 0).trans rfl; have hcz72_1 : w70.cell? ⟨gb260001, 1, none⟩ = some (.int .i64 a0_1) := (blk_cell BK260001.out 1).trans rfl; have hfz72_0 := blk_frozen BK260001.out 0; have hfz72_1 := blk_frozen BK260001.out 1) | ((with_reducible refine gate_callee (f := 17) rfl ?_); refine goesL_ (some 15) rfl rfl Try.func17 (by kernel_rfl) rfl #[.agg #[.string a0_0, .int .i64 a0_1]] rfl (by (try simp only [List.map_toArray, List.map_cons, List.map_nil]); first | done | rfl | (simp only [List.length_drop, List.length_take]; rfl)) ?_; (with_reducible refine (columbariumref07_Right.calls a0_0 a0_1 false _ A3.out).mono ?_); rintro e w73 ⟨rfl, hb⟩; refine ⟨_, rfl, ?_⟩; have n0_ := Aside0.mk (blk_below (g := gb260001) (o := .cells #[.string a0_0, .int .i64 a0_1] 23 (0, 0)) (by (with_reducible repeat (first | refine blk_drewN ?_ _ | refine blk_drew ?_ | refine blk_alloc ?_ _)); exact BK260001.out) hb); have n1_ := Aside0.mk (blk_below (g := gb260002) (o := .cells #[.string (⟨#[]⟩ : ByteArray), .int .i64 0] 23 (0, 0)) (by (with_reducible repeat (first | refine blk_drewN ?_ _ | refine blk_drew ?_ | refine blk_alloc ?_ _)); exact BK260002.out) hb); have n2_ := Aside0.mk (below_step (by repeat (first | (with_reducible first | exact HB.out | apply below_alloc | apply pw_below_drewN | apply below_drew1 | refine below_set ?_ GE260001.out | refine below_set ?_ GE260002.out) | exact HB.out)) hb); clear BK260001; clear BK260002; clear HB; have BK260001 := n0_; have BK260002 := n1_; have HB := n2_; clear n0_ n1_ n2_; (try clear hb); (try clear hb2); (try clear hk); (try clear hi)))
  have n0_ := Aside0.mk (blk_drew BK260001.out)
  have n1_ := Aside0.mk (blk_drew BK260002.out)
  have n2_ := Aside0.mk (below_drew1 HB.out)
  clear BK260001
  clear BK260002
  clear HB
  have BK260001 := n0_
  have BK260002 := n1_
  have HB := n2_
  clear n0_ n1_ n2_
  refine start_ (n := 4) (S := fun w' => w'.cell? ⟨gb260001, 0, none⟩ = some (.string a0_0) ∧ w'.cell? ⟨gb260001, 1, none⟩ = some (.int .i64 a0_1)) (ds := []) #[false, false, false, false] (by kernel_rfl) rfl rfl ⟨(blk_cell BK260001.out 0).trans rfl, (blk_cell BK260001.out 1).trans rfl⟩ (fun hHeld => ?_)
  generalize w73.drew = w74 at BK260001 BK260002 HB hHeld ⊢
  refine pure_ (i := 1) (N := some 4) (v := ?_) (a' := ?_) #[false, true, false, false] rfl rfl (by kernel_rfl) (fun _ _ _ h => h) (Or.inl ⟨by rfl, ?_⟩) ?_ ?_
  rotate_left
  ·intro w'
   go_simp
   with_reducible rfl
  rotate_left
  ·simp only [Act.put, List.setIfInBounds_toArray, List.set_cons_zero, List.set_cons_succ, i64_w, i32_w]
   rfl
  refine take_ (i := 0) (N := some 17) (v := ?_) (a' := ?_) #[true, true, false, false] rfl rfl (by kernel_rfl) (fun _ _ _ h => h) (Or.inl ⟨by rfl, ?_⟩) hHeld ?_ ?_
  rotate_left
  ·rintro w' ⟨s0, s1⟩
   go_simp
   with_reducible rfl
  rotate_left
  ·simp only [Act.put, List.setIfInBounds_toArray, List.set_cons_zero, List.set_cons_succ, i64_w, i32_w]
   rfl
  refine one_ (i := 2) (N := none) #[true, true, true, false] rfl rfl (by kernel_rfl) (by decide) (fun K hK => ?_)
  have hs75 : w74.cell? ⟨gb260002, 0, none⟩ = some (.string (⟨#[]⟩ : ByteArray)) := (blk_cell BK260002.out 0).trans rfl
  have hfs75 := blk_frozen BK260002.out 0
  have hns75_0 := NB260001_260002.out
  have hms75_0 := NB260002_260001.out
  have hs76 : w74.cell? ⟨gb260002, 1, none⟩ = some (.int .i64 0) := (blk_cell BK260002.out 1).trans rfl
  have hfs76 := blk_frozen BK260002.out 1
  have hns76_0 := NB260001_260002.out
  have hms76_0 := NB260002_260001.out
  refine skip_ (w1 := ?_) (by rfl) rfl ?_ ?_
  rotate_left
  ·go_simp
   rfl
  refine hK.out _ _ ⟨((cell_far (p := ⟨gb260002, _, none⟩) NB260001_260002.out _).trans (((cell_far (p := ⟨gb260002, _, none⟩) NB260001_260002.out _).trans (hHeld.1)))), ((cell_far (p := ⟨gb260002, _, none⟩) NB260001_260002.out _).trans (((cell_far (p := ⟨gb260002, _, none⟩) NB260001_260002.out _).trans (hHeld.2))))⟩ (fun hHeld => ?_)
  clear hK K
  refine pure_ (i := 3) (N := some 6) (v := ?_) (a' := ?_) #[true, true, true, true] rfl rfl (by kernel_rfl) (fun _ _ _ h => h) (Or.inl ⟨by rfl, ?_⟩) ?_ ?_
  rotate_left
  ·intro w'
   go_simp
   with_reducible rfl
  rotate_left
  ·simp only [Act.put, List.setIfInBounds_toArray, List.set_cons_zero, List.set_cons_succ, i64_w, i32_w]
   rfl
  refine done_ (by kernel_rfl) ?_
  try go_wp2
  refine bodyPost_ret (results_list (rs := [.tmp 4, .cell 5 23, .tmp 6]) rfl (by simp) (.tmp (.cell gb260002 23 #[.string a0_0, .int .i64 a0_1] (0, 0) _ rfl (by (with_reducible repeat (first | refine blk_drewN ?_ _ | refine blk_drew ?_ | refine blk_alloc ?_ _)); refine blk_put (cs := #[.string a0_0, .int .i64 0]) ?_ 1 _ rfl; (with_reducible repeat (first | refine blk_drewN ?_ _ | refine blk_drew ?_ | refine blk_alloc ?_ _)); refine blk_put (cs := #[.string (⟨#[]⟩ : ByteArray), .int .i64 0]) ?_ 0 _ rfl; (with_reducible repeat (first | refine blk_drewN ?_ _ | refine blk_drew ?_ | refine blk_alloc ?_ _)); exact BK260002.out) Try.underlying23 rfl (by kernel_rfl) (.tmp .nil)))) rfl ?_
  exact ⟨_, by first | rfl | (simp [errW_none, errW_some] <;> rfl) | (simp [*, errW_none, errW_some] <;> rfl), by first | exact Kd.R_nil _ _ _ _ _ | exact Kd.N_nil _ _ _ _ _ | exact Kd.V_nil _ _ _ _ _ | exact Kd.Q_nil _ _ _ _ _ | exact Kd.S_nil _ _ _ _ _, by repeat (first | (with_reducible first | exact HB.out | apply below_alloc | apply pw_below_drewN | apply below_drew1 | refine below_set ?_ GE260001.out | refine below_set ?_ GE260002.out) | exact HB.out)⟩

end Go.Proofs.Ytmkncddbecmlpaa.Pr
