-- Written by wip/tools/xprint.py, a patched run of the kit's print: not typed by hand.
import Derived.Test.YtmkncddbecmlpaaPr0
import Derived.Test.YtmkncddbecmlpaaPrFtapeLeft
import Derived.Test.YtmkncddbecmlpaaPrFtapeRight
namespace Go.Proofs.Ytmkncddbecmlpaa.Pr
open Go.RowKit Go.Proofs.YtmkncddbecmlpaaW.PrintWords Go.Proofs.YtmkncddbecmlpaaW.PrintLast Go.Proofs.YtmkncddbecmlpaaW.PrintMore
attribute [local go_sem] max2_int min2_int max_two min_two max_three min_three max_four min_four   -- for this text's walks alone
set_option linter.unusedVariables false
set_option linter.unusedSimpArgs false

/-! ### tape_Take: function 21 -/
def tape_Take.j0 : Nat → Int → Bool → ByteArray → Int → Option (ByteArray × ByteArray × Int × Int)
 | 0, _, _, _, _ => none
 | k + 1, x1, x8, x210002000, x210002001 => if x8 = true then (some ((⟨#[]⟩ : ByteArray), x210002000, x210002001, 1)) else ((tape_Left.f x210002000 x210002001).bind fun t210004 => (if x1 > t210004 then (some ((⟨#[]⟩ : ByteArray), x210002000, x210002001, 12)) else (if 0 ≤ x210002001 then (if x210002001 ≤ (x210002000.size : Int) then (if 0 ≤ x1 then (if x1 ≤ ((x210002000.extract (x210002001 : Int).toNat x210002000.size).size : Int) then (some ((x210002000.extract (x210002001 : Int).toNat x210002000.size).extract 0 (x1 : Int).toNat, x210002000, wrap64 (x210002001 + x1), 0)) else (none)) else (none)) else (none)) else (none))))
def tape_Take.f (k : Nat) (a0_0 : ByteArray) (a0_1 : Int) (a1 : Int) : Option (ByteArray × ByteArray × Int × Int) := (tape_Right.f a0_0 a0_1).bind fun t210003 => (if t210003 = true then (tape_Take.j0 k a1 (decide (a1 < 0)) a0_0 a0_1) else (tape_Take.j0 k a1 (!t210003) a0_0 a0_1))
theorem tape_Take.mono_l : ∀ k, (∀ y0 y1 y2 y3, LeO (tape_Take.j0 k y0 y1 y2 y3) (tape_Take.j0 (k + 1) y0 y1 y2 y3))
 | 0 => fun _ _ _ _ r h => by simp [tape_Take.j0] at h
 | k + 1 => by
  have ih0 := tape_Take.mono_l k
  ·intro y0 y1 y2 y3
   unfold tape_Take.j0
   repeat' first
   | (with_reducible exact ih0 _ _ _ _)
   | (with_reducible exact LeO.refl _)
   | (with_reducible exact LeO.none _)
   | (with_reducible refine LeO.ite ?_ ?_)
   | (with_reducible refine LeO.bind ?_ (fun _ => ?_))
   | exact ih0 _ _ _ _
   | exact LeO.none _
   | refine LeO.ite ?_ ?_
   | refine LeO.bind ?_ (fun _ => ?_)
theorem tape_Take.mono : ∀ a0 a1 a2 k, LeO (tape_Take.f k a0 a1 a2) (tape_Take.f (k + 1) a0 a1 a2) := by
 intro a0 a1 a2 k
 have ih0 := tape_Take.mono_l k
 unfold tape_Take.f
 repeat' first
   | (with_reducible exact ih0 _ _ _ _)
   | (with_reducible exact LeO.refl _)
   | (with_reducible exact LeO.none _)
   | (with_reducible refine LeO.ite ?_ ?_)
   | (with_reducible refine LeO.bind ?_ (fun _ => ?_))
   | exact ih0 _ _ _ _
   | exact LeO.none _
   | refine LeO.ite ?_ ?_
   | refine LeO.bind ?_ (fun _ => ?_)
set_option maxHeartbeats 8000000 in
set_option maxRecDepth 100000 in
theorem tape_Take.calls (k : Nat) (a0_0 : ByteArray) (a0_1 : Int) (a1 : Int) (r1 : ByteArray) (r2 : ByteArray) (r3 : Int) (r4 : Int) (w : World) (h : tape_Take.f k a0_0 a0_1 a1 = some (r1, r2, r3, r4)) :
  Calls Try.prog 21 #[.agg #[.string a0_0, .int .i64 a0_1], .int .i64 a1] w fun e w' => e = .returned (.tuple #[.string r1, .agg #[.string r2, .int .i64 r3], .int .i64 r4]) ∧ Below w.heap.size w w' := by
 have hu23 := Try.underlying23
 have HB := Aside0.mk (Below.refl w.heap.size w)
 have H : ((tape_Right.f a0_0 a0_1).bind fun t210003 => (if t210003 = true then (tape_Take.j0 k a1 (decide (a1 < 0)) a0_0 a0_1) else (tape_Take.j0 k a1 (!t210003) a0_0 a0_1))) = some (r1, r2, r3, r4) := h
 clear h
 replace H := Option.bind_eq_some_iff.mp H
 obtain ⟨t210003, A30, H⟩ := H
 replace H : (if t210003 = true then (tape_Take.j0 k a1 (decide (a1 < 0)) a0_0 a0_1) else (tape_Take.j0 k a1 (!t210003) a0_0 a0_1)) = some (r1, r2, r3, r4) := H
 have A3 := Aside0.mk A30
 clear A30
 have HC4 := Aside0.mk H
 clear H
 go_enter Try.func21, Try.ntmps21
 go_upto_if 8 with (first | ((with_reducible refine gate_dst (N := 2) rfl ?_); refine box_event ?hg (N := 2) ?hd (cs := #[.string a0_0, .int .i64 a0_1]) (t := 23) ?hr ?_; (case hd => rfl); (case hg => rfl); (case hr => first | (go_simp; done) | (go_simp; rfl)); intro gb210001 hg w5 hbox hb; have n0_ := Aside0.mk (below_step (by repeat (first | (with_reducible first | exact HB.out | apply below_alloc | apply pw_below_drewN | apply below_drew1) | exact HB.out)) hb); have n1_ := Aside0.mk (hbox); have n2_ := Aside0.mk ((by rw [hg]; exact (below_size (by repeat (first | (with_reducible first | exact HB.out | apply below_alloc | apply pw_below_drewN | apply below_drew1) | exact HB.out))) : w.heap.size ≤ gb210001)); have n3_ := Aside0.mk ((by rw [hg]; exact (below_size (by repeat (first | (with_reducible first | exact HB.out | apply below_alloc | apply pw_below_drewN | apply below_drew1) | exact HB.out))) : w.heap.size ≤ gb210001)); clear HB; have HB := n0_; have BK210001 := n1_; have GW210001 := n2_; have GE210001 := n3_; clear n0_ n1_ n2_ n3_; clear hb hbox hg) | ((with_reducible refine gate_dst (N := 5) rfl ?_); refine box_event ?hg (N := 5) ?hd (cs := #[.string (⟨#[]⟩ : ByteArray), .int .i64 0]) (t := 23) ?hr ?_; (case hd => rfl); (case hg => rfl); (case hr => first | (go_simp; done) | (go_simp; rfl)); intro gb210002 hg w6 hbox hb; have n0_ := Aside0.mk (blk_below (g := gb210001) (o := .cells #[.string a0_0, .int .i64 a0_1] 23 (0, 0)) (by (with_reducible repeat (first | refine blk_drewN ?_ _ | refine blk_drew ?_ | refine blk_alloc ?_ _)); exact BK210001.out) hb); have n1_ := Aside0.mk (below_step (by repeat (first | (with_reducible first | exact HB.out | apply below_alloc | apply pw_below_drewN | apply below_drew1 | refine below_set ?_ GE210001.out) | exact HB.out)) hb); have n2_ := Aside0.mk (hbox); have n3_ := Aside0.mk ((by rw [hg]; exact (below_size (by repeat (first | (with_reducible first | exact HB.out | apply below_alloc | apply pw_below_drewN | apply below_drew1 | refine below_set ?_ GE210001.out) | exact HB.out))) : w.heap.size ≤ gb210002)); have n4_ := Aside0.mk ((by rw [hg]; exact (below_size (by repeat (first | (with_reducible first | exact HB.out | apply below_alloc | apply pw_below_drewN | apply below_drew1 | refine below_set ?_ GE210001.out) | exact HB.out))) : w.heap.size ≤ gb210002)); have n5_ := Aside0.mk ((by rw [hg]; exact Nat.ne_of_lt (blk_lt (g := gb210001) (o := .cells #[.string a0_0, .int .i64 a0_1] 23 (0, 0)) (by (with_reducible repeat (first | refine blk_drewN ?_ _ | refine blk_drew ?_ | refine blk_alloc ?_ _)); exact BK210001.out)) : gb210001 ≠ gb210002)); have n6_ := Aside0.mk ((by rw [hg]; exact Nat.ne_of_gt (blk_lt (g := gb210001) (o := .cells #[.string a0_0, .int .i64 a0_1] 23 (0, 0)) (by (with_reducible repeat (first | refine blk_drewN ?_ _ | refine blk_drew ?_ | refine blk_alloc ?_ _)); exact BK210001.out)) : gb210002 ≠ gb210001)); clear BK210001; clear HB; have BK210001 := n0_; have HB := n1_; have BK210002 := n2_; have GW210002 := n3_; have GE210002 := n4_; have NB210001_210002 := n5_; have NB210002_210001 := n6_; clear n0_ n1_ n2_ n3_ n4_ n5_ n6_; clear hb hbox hg; have hnb7 := NB210001_210002.out; have hnc7 := NB210002_210001.out; have hcz8_0 : w6.cell? ⟨gb210001, 0, none⟩ = some (.string a0_0) := (blk_cell BK210001.out 0).trans rfl; have hcz8_1 : w6.cell? ⟨gb210001, 1, none⟩ = some (.int .i64 a0_1) := (blk_cell BK210001.out 1).trans rfl; have hfz8_0 := blk_frozen BK210001.out 0; have hfz8_1 := blk_frozen BK210001.out 1) | ((with_reducible refine gate_callee (f := 16) rfl ?_); refine goesL_ (some 10) rfl rfl Try.func16 (by kernel_rfl) rfl #[.agg #[.string a0_0, .int .i64 a0_1]] rfl (by (try simp only [List.map_toArray, List.map_cons, List.map_nil]); first | done | rfl | (simp only [List.length_drop, List.length_take]; rfl)) ?_; (with_reducible refine (tape_Right.calls a0_0 a0_1 t210003 _ A3.out).mono ?_); rintro e w9 ⟨rfl, hb⟩; refine ⟨_, rfl, ?_⟩; have n0_ := Aside0.mk (blk_below (g := gb210001) (o := .cells #[.string a0_0, .int .i64 a0_1] 23 (0, 0)) (by (with_reducible repeat (first | refine blk_drewN ?_ _ | refine blk_drew ?_ | refine blk_alloc ?_ _)); exact BK210001.out) hb); have n1_ := Aside0.mk (blk_below (g := gb210002) (o := .cells #[.string (⟨#[]⟩ : ByteArray), .int .i64 0] 23 (0, 0)) (by (with_reducible repeat (first | refine blk_drewN ?_ _ | refine blk_drew ?_ | refine blk_alloc ?_ _)); exact BK210002.out) hb); have n2_ := Aside0.mk (below_step (by repeat (first | (with_reducible first | exact HB.out | apply below_alloc | apply pw_below_drewN | apply below_drew1 | refine below_set ?_ GE210001.out | refine below_set ?_ GE210002.out) | exact HB.out)) hb); clear BK210001; clear BK210002; clear HB; have BK210001 := n0_; have BK210002 := n1_; have HB := n2_; clear n0_ n1_ n2_; (try clear hb); (try clear hb2); (try clear hk); (try clear hi)))
 (try simp only [Act.put, List.setIfInBounds_toArray, List.set_cons_zero, List.set_cons_succ])
 go_cut [8] (fun v8 wc => ∃ (kq : Nat) (x8_3 : Bool), v8 = .bool x8_3 ∧ Aside0 (tape_Take.j0 kq a1 x8_3 a0_0 a0_1 = some (r1, r2, r3, r4)) ∧ Aside0 (kq ≤ k) ∧ Aside0 (wc.heap[gb210001]? = some (.cells #[.string a0_0, .int .i64 a0_1] 23 (0, 0))) ∧ Aside0 (wc.heap[gb210002]? = some (.cells #[.string (⟨#[]⟩ : ByteArray), .int .i64 0] 23 (0, 0))) ∧ Aside0 (Below w.heap.size w wc))
 case first =>
  have H := HC4.out
  clear HC4
  by_cases c10 : t210003 = true
  ·subst c10
   have H1 : (tape_Take.j0 k a1 (decide (a1 < 0)) a0_0 a0_1) = some (r1, r2, r3, r4) := by rw [if_pos rfl] at H; exact H
   clear H
   have H := H1
   clear H1
   have H' := Aside0.mk H
   clear H
   go_wp2
   go_meet
   case rel => exact ⟨_, (decide (a1 < 0)), (by first | rfl | (simp; done) | (simp [*]; done)), H', ⟨by first | omega | exact Nat.le_refl _⟩, ⟨by (with_reducible repeat (first | refine blk_drewN ?_ _ | refine blk_drew ?_ | refine blk_alloc ?_ _)); exact BK210001.out⟩, ⟨by (with_reducible repeat (first | refine blk_drewN ?_ _ | refine blk_drew ?_ | refine blk_alloc ?_ _)); exact BK210002.out⟩, ⟨by repeat (first | (with_reducible first | exact HB.out | apply below_alloc | apply pw_below_drewN | apply below_drew1 | refine below_set ?_ GE210001.out | refine below_set ?_ GE210002.out) | exact HB.out)⟩⟩
  ·replace c10 := Bool.eq_false_iff.mpr c10
   subst c10
   have H1 : (tape_Take.j0 k a1 (!false) a0_0 a0_1) = some (r1, r2, r3, r4) := by rw [if_neg (show ¬ (false = true) by decide)] at H; exact H
   clear H
   have H := H1
   clear H1
   have H' := Aside0.mk H
   clear H
   go_wp2
   go_meet
   case rel => exact ⟨_, (!false), (by first | rfl | (simp; done) | (simp [*]; done)), H', ⟨by first | omega | exact Nat.le_refl _⟩, ⟨by (with_reducible repeat (first | refine blk_drewN ?_ _ | refine blk_drew ?_ | refine blk_alloc ?_ _)); exact BK210001.out⟩, ⟨by (with_reducible repeat (first | refine blk_drewN ?_ _ | refine blk_drew ?_ | refine blk_alloc ?_ _)); exact BK210002.out⟩, ⟨by repeat (first | (with_reducible first | exact HB.out | apply below_alloc | apply pw_below_drewN | apply below_drew1 | refine below_set ?_ GE210001.out | refine below_set ?_ GE210002.out) | exact HB.out)⟩⟩
 case rest =>
  clear HC4
  try clear c1
  try clear c2
  try clear p2
  try clear c7
  try clear c10
  try clear hcz8_0
  try clear hcz8_1
  try clear hfz8_0
  try clear hfz8_1
  obtain ⟨kq, x8_3, rfl, HA, HJ3, BK210001, BK210002, HB⟩ := hcut
  cases kq with
  | zero => exact absurd HA.out (by simp [tape_Take.j0])
  | succ kj3 =>
   have H := HA.out
   clear HA
   simp only [tape_Take.j0] at H
   by_cases c11 : x8_3 = true
   ·subst c11
    have H1 : (some ((⟨#[]⟩ : ByteArray), a0_0, a0_1, 1)) = some (r1, r2, r3, r4) := by rw [if_pos rfl] at H; exact H
    clear H
    have H := H1
    clear H1
    simp only [Option.some.injEq, Prod.mk.injEq] at H
    obtain ⟨rfl, rfl, rfl, rfl⟩ := H
    try go_wp2
    have n0_ := Aside0.mk (blk_drew BK210001.out)
    have n1_ := Aside0.mk (blk_drew BK210002.out)
    have n2_ := Aside0.mk (below_drew1 HB.out)
    clear BK210001
    clear BK210002
    clear HB
    have BK210001 := n0_
    have BK210002 := n1_
    have HB := n2_
    clear n0_ n1_ n2_
    refine start_ (n := 4) (S := fun w' => w'.cell? ⟨gb210001, 0, none⟩ = some (.string a0_0) ∧ w'.cell? ⟨gb210001, 1, none⟩ = some (.int .i64 a0_1)) (ds := []) #[false, false, false, false] (by kernel_rfl) rfl rfl ⟨(blk_cell BK210001.out 0).trans rfl, (blk_cell BK210001.out 1).trans rfl⟩ (fun hHeld => ?_)
    generalize wc.drew = w12 at BK210001 BK210002 HB hHeld ⊢
    refine pure_ (i := 1) (N := some 4) (v := ?_) (a' := ?_) #[false, true, false, false] rfl rfl (by kernel_rfl) (fun _ _ _ h => h) (Or.inl ⟨by rfl, ?_⟩) ?_ ?_
    rotate_left
    ·intro w'
     go_simp
     with_reducible rfl
    rotate_left
    ·simp only [Act.put, List.setIfInBounds_toArray, List.set_cons_zero, List.set_cons_succ, i64_w, i32_w]
     rfl
    refine take_ (i := 0) (N := some 14) (v := ?_) (a' := ?_) #[true, true, false, false] rfl rfl (by kernel_rfl) (fun _ _ _ h => h) (Or.inl ⟨by rfl, ?_⟩) hHeld ?_ ?_
    rotate_left
    ·rintro w' ⟨s0, s1⟩
     go_simp
     with_reducible rfl
    rotate_left
    ·simp only [Act.put, List.setIfInBounds_toArray, List.set_cons_zero, List.set_cons_succ, i64_w, i32_w]
     rfl
    refine one_ (i := 2) (N := none) #[true, true, true, false] rfl rfl (by kernel_rfl) (by decide) (fun K hK => ?_)
    have hs13 : w12.cell? ⟨gb210002, 0, none⟩ = some (.string (⟨#[]⟩ : ByteArray)) := (blk_cell BK210002.out 0).trans rfl
    have hfs13 := blk_frozen BK210002.out 0
    have hns13_0 := NB210001_210002.out
    have hms13_0 := NB210002_210001.out
    have hs14 : w12.cell? ⟨gb210002, 1, none⟩ = some (.int .i64 0) := (blk_cell BK210002.out 1).trans rfl
    have hfs14 := blk_frozen BK210002.out 1
    have hns14_0 := NB210001_210002.out
    have hms14_0 := NB210002_210001.out
    refine skip_ (w1 := ?_) (by rfl) rfl ?_ ?_
    rotate_left
    ·go_simp
     rfl
    refine hK.out _ _ ⟨((cell_far (p := ⟨gb210002, _, none⟩) NB210001_210002.out _).trans (((cell_far (p := ⟨gb210002, _, none⟩) NB210001_210002.out _).trans (hHeld.1)))), ((cell_far (p := ⟨gb210002, _, none⟩) NB210001_210002.out _).trans (((cell_far (p := ⟨gb210002, _, none⟩) NB210001_210002.out _).trans (hHeld.2))))⟩ (fun hHeld => ?_)
    clear hK K
    refine pure_ (i := 3) (N := some 6) (v := ?_) (a' := ?_) #[true, true, true, true] rfl rfl (by kernel_rfl) (fun _ _ _ h => h) (Or.inl ⟨by rfl, ?_⟩) ?_ ?_
    rotate_left
    ·intro w'
     go_simp
     with_reducible rfl
    rotate_left
    ·simp only [Act.put, List.setIfInBounds_toArray, List.set_cons_zero, List.set_cons_succ, i64_w, i32_w]
     rfl
    refine done_ (by kernel_rfl) ?_
    try go_wp2
    refine bodyPost_ret (results_list (rs := [.tmp 4, .cell 5 23, .tmp 6]) rfl (by simp) (.tmp (.cell gb210002 23 #[.string a0_0, .int .i64 a0_1] (0, 0) _ rfl (by (with_reducible repeat (first | refine blk_drewN ?_ _ | refine blk_drew ?_ | refine blk_alloc ?_ _)); refine blk_put (cs := #[.string a0_0, .int .i64 0]) ?_ 1 _ rfl; (with_reducible repeat (first | refine blk_drewN ?_ _ | refine blk_drew ?_ | refine blk_alloc ?_ _)); refine blk_put (cs := #[.string (⟨#[]⟩ : ByteArray), .int .i64 0]) ?_ 0 _ rfl; (with_reducible repeat (first | refine blk_drewN ?_ _ | refine blk_drew ?_ | refine blk_alloc ?_ _)); exact BK210002.out) Try.underlying23 rfl (by kernel_rfl) (.tmp .nil)))) rfl ?_
    exact ⟨by first | rfl | (simp [errW_none, errW_some] <;> rfl) | (simp [*, errW_none, errW_some] <;> rfl), by repeat (first | (with_reducible first | exact HB.out | apply below_alloc | apply pw_below_drewN | apply below_drew1 | refine below_set ?_ GE210001.out | refine below_set ?_ GE210002.out) | exact HB.out)⟩
   ·replace c11 := Bool.eq_false_iff.mpr c11
    subst c11
    have H1 : ((tape_Left.f a0_0 a0_1).bind fun t210004 => (if a1 > t210004 then (some ((⟨#[]⟩ : ByteArray), a0_0, a0_1, 12)) else (if 0 ≤ a0_1 then (if a0_1 ≤ (a0_0.size : Int) then (if 0 ≤ a1 then (if a1 ≤ ((a0_0.extract (a0_1 : Int).toNat a0_0.size).size : Int) then (some ((a0_0.extract (a0_1 : Int).toNat a0_0.size).extract 0 (a1 : Int).toNat, a0_0, wrap64 (a0_1 + a1), 0)) else (none)) else (none)) else (none)) else (none)))) = some (r1, r2, r3, r4) := by rw [if_neg (show ¬ (false = true) by decide)] at H; exact H
    clear H
    have H := H1
    clear H1
    replace H := Option.bind_eq_some_iff.mp H
    obtain ⟨t210004, A150, H⟩ := H
    replace H : (if a1 > t210004 then (some ((⟨#[]⟩ : ByteArray), a0_0, a0_1, 12)) else (if 0 ≤ a0_1 then (if a0_1 ≤ (a0_0.size : Int) then (if 0 ≤ a1 then (if a1 ≤ ((a0_0.extract (a0_1 : Int).toNat a0_0.size).size : Int) then (some ((a0_0.extract (a0_1 : Int).toNat a0_0.size).extract 0 (a1 : Int).toNat, a0_0, wrap64 (a0_1 + a1), 0)) else (none)) else (none)) else (none)) else (none))) = some (r1, r2, r3, r4) := H
    have A15 := Aside0.mk A150
    clear A150
    by_cases c16 : a1 > t210004
    ·rw [if_pos c16] at H
     have c16b0 : decide (t210004 < a1) = true := decide_eq_true c16
     clear c16
     simp only [Option.some.injEq, Prod.mk.injEq] at H
     obtain ⟨rfl, rfl, rfl, rfl⟩ := H
     have hnb17 := NB210001_210002.out
     have hnc17 := NB210002_210001.out
     have hcz18_0 : wc.cell? ⟨gb210001, 0, none⟩ = some (.string a0_0) := (blk_cell BK210001.out 0).trans rfl
     have hcz18_1 : wc.cell? ⟨gb210001, 1, none⟩ = some (.int .i64 a0_1) := (blk_cell BK210001.out 1).trans rfl
     have hfz18_0 := blk_frozen BK210001.out 0
     have hfz18_1 := blk_frozen BK210001.out 1
     try go_wp2_with (first | ((with_reducible refine gate_callee (f := 18) rfl ?_); refine goesL_ (some 18) rfl rfl Try.func18 (by kernel_rfl) rfl #[.agg #[.string a0_0, .int .i64 a0_1]] rfl (by (try simp only [List.map_toArray, List.map_cons, List.map_nil]); first | done | rfl | (simp only [List.length_drop, List.length_take]; rfl)) ?_; (with_reducible refine (tape_Left.calls a0_0 a0_1 t210004 _ A15.out).mono ?_); rintro e w19 ⟨rfl, hb⟩; refine ⟨_, rfl, ?_⟩; have n0_ := Aside0.mk (blk_below (g := gb210001) (o := .cells #[.string a0_0, .int .i64 a0_1] 23 (0, 0)) (by (with_reducible repeat (first | refine blk_drewN ?_ _ | refine blk_drew ?_ | refine blk_alloc ?_ _)); exact BK210001.out) hb); have n1_ := Aside0.mk (blk_below (g := gb210002) (o := .cells #[.string (⟨#[]⟩ : ByteArray), .int .i64 0] 23 (0, 0)) (by (with_reducible repeat (first | refine blk_drewN ?_ _ | refine blk_drew ?_ | refine blk_alloc ?_ _)); exact BK210002.out) hb); have n2_ := Aside0.mk (below_step (by repeat (first | (with_reducible first | exact HB.out | apply below_alloc | apply pw_below_drewN | apply below_drew1 | refine below_set ?_ GE210001.out | refine below_set ?_ GE210002.out) | exact HB.out)) hb); clear BK210001; clear BK210002; clear HB; have BK210001 := n0_; have BK210002 := n1_; have HB := n2_; clear n0_ n1_ n2_; (try clear hb); (try clear hb2); (try clear hk); (try clear hi)))
     have n0_ := Aside0.mk (blk_drew BK210001.out)
     have n1_ := Aside0.mk (blk_drew BK210002.out)
     have n2_ := Aside0.mk (below_drew1 HB.out)
     clear BK210001
     clear BK210002
     clear HB
     have BK210001 := n0_
     have BK210002 := n1_
     have HB := n2_
     clear n0_ n1_ n2_
     refine start_ (n := 4) (S := fun w' => w'.cell? ⟨gb210001, 0, none⟩ = some (.string a0_0) ∧ w'.cell? ⟨gb210001, 1, none⟩ = some (.int .i64 a0_1)) (ds := []) #[false, false, false, false] (by kernel_rfl) rfl rfl ⟨(blk_cell BK210001.out 0).trans rfl, (blk_cell BK210001.out 1).trans rfl⟩ (fun hHeld => ?_)
     generalize w19.drew = w20 at BK210001 BK210002 HB hHeld ⊢
     refine pure_ (i := 1) (N := some 4) (v := ?_) (a' := ?_) #[false, true, false, false] rfl rfl (by kernel_rfl) (fun _ _ _ h => h) (Or.inl ⟨by rfl, ?_⟩) ?_ ?_
     rotate_left
     ·intro w'
      go_simp
      with_reducible rfl
     rotate_left
     ·simp only [Act.put, List.setIfInBounds_toArray, List.set_cons_zero, List.set_cons_succ, i64_w, i32_w]
      rfl
     refine take_ (i := 0) (N := some 20) (v := ?_) (a' := ?_) #[true, true, false, false] rfl rfl (by kernel_rfl) (fun _ _ _ h => h) (Or.inl ⟨by rfl, ?_⟩) hHeld ?_ ?_
     rotate_left
     ·rintro w' ⟨s0, s1⟩
      go_simp
      with_reducible rfl
     rotate_left
     ·simp only [Act.put, List.setIfInBounds_toArray, List.set_cons_zero, List.set_cons_succ, i64_w, i32_w]
      rfl
     refine one_ (i := 2) (N := none) #[true, true, true, false] rfl rfl (by kernel_rfl) (by decide) (fun K hK => ?_)
     have hs21 : w20.cell? ⟨gb210002, 0, none⟩ = some (.string (⟨#[]⟩ : ByteArray)) := (blk_cell BK210002.out 0).trans rfl
     have hfs21 := blk_frozen BK210002.out 0
     have hns21_0 := NB210001_210002.out
     have hms21_0 := NB210002_210001.out
     have hs22 : w20.cell? ⟨gb210002, 1, none⟩ = some (.int .i64 0) := (blk_cell BK210002.out 1).trans rfl
     have hfs22 := blk_frozen BK210002.out 1
     have hns22_0 := NB210001_210002.out
     have hms22_0 := NB210002_210001.out
     refine skip_ (w1 := ?_) (by rfl) rfl ?_ ?_
     rotate_left
     ·go_simp
      rfl
     refine hK.out _ _ ⟨((cell_far (p := ⟨gb210002, _, none⟩) NB210001_210002.out _).trans (((cell_far (p := ⟨gb210002, _, none⟩) NB210001_210002.out _).trans (hHeld.1)))), ((cell_far (p := ⟨gb210002, _, none⟩) NB210001_210002.out _).trans (((cell_far (p := ⟨gb210002, _, none⟩) NB210001_210002.out _).trans (hHeld.2))))⟩ (fun hHeld => ?_)
     clear hK K
     refine pure_ (i := 3) (N := some 6) (v := ?_) (a' := ?_) #[true, true, true, true] rfl rfl (by kernel_rfl) (fun _ _ _ h => h) (Or.inl ⟨by rfl, ?_⟩) ?_ ?_
     rotate_left
     ·intro w'
      go_simp
      with_reducible rfl
     rotate_left
     ·simp only [Act.put, List.setIfInBounds_toArray, List.set_cons_zero, List.set_cons_succ, i64_w, i32_w]
      rfl
     refine done_ (by kernel_rfl) ?_
     try go_wp2
     refine bodyPost_ret (results_list (rs := [.tmp 4, .cell 5 23, .tmp 6]) rfl (by simp) (.tmp (.cell gb210002 23 #[.string a0_0, .int .i64 a0_1] (0, 0) _ rfl (by (with_reducible repeat (first | refine blk_drewN ?_ _ | refine blk_drew ?_ | refine blk_alloc ?_ _)); refine blk_put (cs := #[.string a0_0, .int .i64 0]) ?_ 1 _ rfl; (with_reducible repeat (first | refine blk_drewN ?_ _ | refine blk_drew ?_ | refine blk_alloc ?_ _)); refine blk_put (cs := #[.string (⟨#[]⟩ : ByteArray), .int .i64 0]) ?_ 0 _ rfl; (with_reducible repeat (first | refine blk_drewN ?_ _ | refine blk_drew ?_ | refine blk_alloc ?_ _)); exact BK210002.out) Try.underlying23 rfl (by kernel_rfl) (.tmp .nil)))) rfl ?_
     exact ⟨by first | rfl | (simp [errW_none, errW_some] <;> rfl) | (simp [*, errW_none, errW_some] <;> rfl), by repeat (first | (with_reducible first | exact HB.out | apply below_alloc | apply pw_below_drewN | apply below_drew1 | refine below_set ?_ GE210001.out | refine below_set ?_ GE210002.out) | exact HB.out)⟩
    ·rw [if_neg c16] at H
     have c16b0 : decide (t210004 < a1) = false := decide_eq_false c16
     clear c16
     by_cases c23 : 0 ≤ a0_1
     ·rw [if_pos c23] at H
      have c23b0 := eq_true c23
      have c23b1 : decide (0 ≤ a0_1) = true := decide_eq_true c23
      clear c23
      by_cases c24 : a0_1 ≤ (a0_0.size : Int)
      ·rw [if_pos c24] at H
       have c24b0 := eq_true c24
       have c24b1 : decide (a0_1 ≤ (a0_0.size : Int)) = true := decide_eq_true c24
       clear c24
       obtain ⟨sx25, hsx25⟩ : ∃ s_ : ByteArray, (a0_0.extract (a0_1 : Int).toNat a0_0.size) = s_ := ⟨_, rfl⟩
       replace H : (if 0 ≤ a1 then (if a1 ≤ ((sx25).size : Int) then (some ((sx25).extract 0 (a1 : Int).toNat, a0_0, wrap64 (a0_1 + a1), 0)) else (none)) else (none)) = some (r1, r2, r3, r4) := by first | (rw [hsx25] at H; exact H) | (simp only [hsx25] at H ⊢; exact H) | exact H
       by_cases c26 : 0 ≤ a1
       ·rw [if_pos c26] at H
        have c26b0 := eq_true c26
        have c26b1 : decide (0 ≤ a1) = true := decide_eq_true c26
        clear c26
        by_cases c27 : a1 ≤ ((sx25).size : Int)
        ·rw [if_pos c27] at H
         have c27b0 := eq_true c27
         have c27b1 : decide (a1 ≤ ((sx25).size : Int)) = true := decide_eq_true c27
         clear c27
         obtain ⟨sx28, hsx28⟩ : ∃ s_ : ByteArray, ((sx25).extract 0 (a1 : Int).toNat) = s_ := ⟨_, rfl⟩
         replace H : (some (sx28, a0_0, wrap64 (a0_1 + a1), 0)) = some (r1, r2, r3, r4) := by first | (rw [hsx28] at H; exact H) | (simp only [hsx28] at H ⊢; exact H) | exact H
         simp only [Option.some.injEq, Prod.mk.injEq] at H
         obtain ⟨rfl, rfl, rfl, rfl⟩ := H
         have hnb29 := NB210001_210002.out
         have hnc29 := NB210002_210001.out
         have hcz30_0 : wc.cell? ⟨gb210001, 0, none⟩ = some (.string a0_0) := (blk_cell BK210001.out 0).trans rfl
         have hcz30_1 : wc.cell? ⟨gb210001, 1, none⟩ = some (.int .i64 a0_1) := (blk_cell BK210001.out 1).trans rfl
         have hfz30_0 := blk_frozen BK210001.out 0
         have hfz30_1 := blk_frozen BK210001.out 1
         try go_wp2_with (first | ((with_reducible refine gate_callee (f := 18) rfl ?_); refine goesL_ (some 18) rfl rfl Try.func18 (by kernel_rfl) rfl #[.agg #[.string a0_0, .int .i64 a0_1]] rfl (by (try simp only [List.map_toArray, List.map_cons, List.map_nil]); first | done | rfl | (simp only [List.length_drop, List.length_take]; rfl)) ?_; (with_reducible refine (tape_Left.calls a0_0 a0_1 t210004 _ A15.out).mono ?_); rintro e w31 ⟨rfl, hb⟩; refine ⟨_, rfl, ?_⟩; have n0_ := Aside0.mk (blk_below (g := gb210001) (o := .cells #[.string a0_0, .int .i64 a0_1] 23 (0, 0)) (by (with_reducible repeat (first | refine blk_drewN ?_ _ | refine blk_drew ?_ | refine blk_alloc ?_ _)); exact BK210001.out) hb); have n1_ := Aside0.mk (blk_below (g := gb210002) (o := .cells #[.string (⟨#[]⟩ : ByteArray), .int .i64 0] 23 (0, 0)) (by (with_reducible repeat (first | refine blk_drewN ?_ _ | refine blk_drew ?_ | refine blk_alloc ?_ _)); exact BK210002.out) hb); have n2_ := Aside0.mk (below_step (by repeat (first | (with_reducible first | exact HB.out | apply below_alloc | apply pw_below_drewN | apply below_drew1 | refine below_set ?_ GE210001.out | refine below_set ?_ GE210002.out) | exact HB.out)) hb); clear BK210001; clear BK210002; clear HB; have BK210001 := n0_; have BK210002 := n1_; have HB := n2_; clear n0_ n1_ n2_; (try clear hb); (try clear hb2); (try clear hk); (try clear hi); have hcz32_0 : w31.cell? ⟨gb210001, 0, none⟩ = some (.string a0_0) := (blk_cell BK210001.out 0).trans rfl; have hcz32_1 : w31.cell? ⟨gb210001, 1, none⟩ = some (.int .i64 a0_1) := (blk_cell BK210001.out 1).trans rfl; have hfz32_0 := blk_frozen BK210001.out 0; have hfz32_1 := blk_frozen BK210001.out 1))
         have n0_ : Aside0 ((w31.setCell ⟨gb210001, 1, none⟩ (.int .i64 (wrap64 (a0_1 + a1)))).heap[gb210001]? = some (.cells #[.string a0_0, .int .i64 (wrap64 (a0_1 + a1))] 23 (0, 0))) := ⟨by (with_reducible repeat (first | refine blk_drewN ?_ _ | refine blk_drew ?_ | refine blk_alloc ?_ _)); refine blk_put (cs := #[.string a0_0, .int .i64 a0_1]) ?_ 1 _ rfl; (with_reducible repeat (first | refine blk_drewN ?_ _ | refine blk_drew ?_ | refine blk_alloc ?_ _)); exact BK210001.out⟩
         have n1_ : Aside0 ((w31.setCell ⟨gb210001, 1, none⟩ (.int .i64 (wrap64 (a0_1 + a1)))).heap[gb210002]? = some (.cells #[.string (⟨#[]⟩ : ByteArray), .int .i64 0] 23 (0, 0))) := ⟨by (with_reducible repeat (first | refine blk_drewN ?_ _ | refine blk_drew ?_ | refine blk_alloc ?_ _)); refine blk_far ?_ NB210002_210001.out _; (with_reducible repeat (first | refine blk_drewN ?_ _ | refine blk_drew ?_ | refine blk_alloc ?_ _)); exact BK210002.out⟩
         have n2_ : Aside0 (Below w.heap.size w (w31.setCell ⟨gb210001, 1, none⟩ (.int .i64 (wrap64 (a0_1 + a1))))) := ⟨by repeat (first | (with_reducible first | exact HB.out | apply below_alloc | apply pw_below_drewN | apply below_drew1 | refine below_set ?_ GE210001.out | refine below_set ?_ GE210002.out) | exact HB.out)⟩
         (try clear BK210001)
         (try clear BK210002)
         (try clear HB)
         generalize (w31.setCell ⟨gb210001, 1, none⟩ (.int .i64 (wrap64 (a0_1 + a1)))) = w33 at n0_ n1_ n2_ ⊢
         have BK210001 := n0_
         have BK210002 := n1_
         have HB := n2_
         clear n0_ n1_ n2_
         have n0_ := Aside0.mk (blk_drew BK210001.out)
         have n1_ := Aside0.mk (blk_drew BK210002.out)
         have n2_ := Aside0.mk (below_drew1 HB.out)
         clear BK210001
         clear BK210002
         clear HB
         have BK210001 := n0_
         have BK210002 := n1_
         have HB := n2_
         clear n0_ n1_ n2_
         refine start_ (n := 5) (S := fun w' => w'.cell? ⟨gb210001, 0, none⟩ = some (.string a0_0) ∧ w'.cell? ⟨gb210001, 1, none⟩ = some (.int .i64 (wrap64 (a0_1 + a1)))) (ds := []) #[false, false, false, false, false] (by kernel_rfl) rfl rfl ⟨(blk_cell BK210001.out 0).trans rfl, (blk_cell BK210001.out 1).trans rfl⟩ (fun hHeld => ?_)
         generalize w33.drew = w34 at BK210001 BK210002 HB hHeld ⊢
         refine pure_ (i := 0) (N := some 33) (v := ?_) (a' := ?_) #[true, false, false, false, false] rfl rfl (by kernel_rfl) (fun _ _ _ h => h) (Or.inl ⟨by rfl, ?_⟩) ?_ ?_
         rotate_left
         ·intro w'
          go_simp
          with_reducible rfl
         rotate_left
         ·simp only [Act.put, List.setIfInBounds_toArray, List.set_cons_zero, List.set_cons_succ, i64_w, i32_w]
          rfl
         refine pure_ (i := 2) (N := some 4) (v := ?_) (a' := ?_) #[true, false, true, false, false] rfl rfl (by kernel_rfl) (fun _ _ _ h => h) (Or.inl ⟨by rfl, ?_⟩) ?_ ?_
         rotate_left
         ·intro w'
          go_simp
          with_reducible rfl
         rotate_left
         ·simp only [Act.put, List.setIfInBounds_toArray, List.set_cons_zero, List.set_cons_succ, i64_w, i32_w]
          rfl
         refine take_ (i := 1) (N := some 34) (v := ?_) (a' := ?_) #[true, true, true, false, false] rfl rfl (by kernel_rfl) (fun _ _ _ h => h) (Or.inl ⟨by rfl, ?_⟩) hHeld ?_ ?_
         rotate_left
         ·rintro w' ⟨s0, s1⟩
          go_simp
          with_reducible rfl
         rotate_left
         ·simp only [Act.put, List.setIfInBounds_toArray, List.set_cons_zero, List.set_cons_succ, i64_w, i32_w]
          rfl
         refine one_ (i := 3) (N := none) #[true, true, true, true, false] rfl rfl (by kernel_rfl) (by decide) (fun K hK => ?_)
         have hs35 : w34.cell? ⟨gb210002, 0, none⟩ = some (.string (⟨#[]⟩ : ByteArray)) := (blk_cell BK210002.out 0).trans rfl
         have hfs35 := blk_frozen BK210002.out 0
         have hns35_0 := NB210001_210002.out
         have hms35_0 := NB210002_210001.out
         have hs36 : w34.cell? ⟨gb210002, 1, none⟩ = some (.int .i64 0) := (blk_cell BK210002.out 1).trans rfl
         have hfs36 := blk_frozen BK210002.out 1
         have hns36_0 := NB210001_210002.out
         have hms36_0 := NB210002_210001.out
         refine skip_ (w1 := ?_) (by rfl) rfl ?_ ?_
         rotate_left
         ·go_simp
          rfl
         refine hK.out _ _ ⟨((cell_far (p := ⟨gb210002, _, none⟩) NB210001_210002.out _).trans (((cell_far (p := ⟨gb210002, _, none⟩) NB210001_210002.out _).trans (hHeld.1)))), ((cell_far (p := ⟨gb210002, _, none⟩) NB210001_210002.out _).trans (((cell_far (p := ⟨gb210002, _, none⟩) NB210001_210002.out _).trans (hHeld.2))))⟩ (fun hHeld => ?_)
         clear hK K
         refine pure_ (i := 4) (N := some 6) (v := ?_) (a' := ?_) #[true, true, true, true, true] rfl rfl (by kernel_rfl) (fun _ _ _ h => h) (Or.inl ⟨by rfl, ?_⟩) ?_ ?_
         rotate_left
         ·intro w'
          go_simp
          with_reducible rfl
         rotate_left
         ·simp only [Act.put, List.setIfInBounds_toArray, List.set_cons_zero, List.set_cons_succ, i64_w, i32_w]
          rfl
         refine done_ (by kernel_rfl) ?_
         try go_wp2
         refine bodyPost_ret (results_list (rs := [.tmp 4, .cell 5 23, .tmp 6]) rfl (by simp) (.tmp (.cell gb210002 23 #[.string a0_0, .int .i64 (wrap64 (a0_1 + a1))] (0, 0) _ rfl (by (with_reducible repeat (first | refine blk_drewN ?_ _ | refine blk_drew ?_ | refine blk_alloc ?_ _)); refine blk_put (cs := #[.string a0_0, .int .i64 0]) ?_ 1 _ rfl; (with_reducible repeat (first | refine blk_drewN ?_ _ | refine blk_drew ?_ | refine blk_alloc ?_ _)); refine blk_put (cs := #[.string (⟨#[]⟩ : ByteArray), .int .i64 0]) ?_ 0 _ rfl; (with_reducible repeat (first | refine blk_drewN ?_ _ | refine blk_drew ?_ | refine blk_alloc ?_ _)); exact BK210002.out) Try.underlying23 rfl (by kernel_rfl) (.tmp .nil)))) rfl ?_
         exact ⟨by first | rfl | (simp [errW_none, errW_some] <;> rfl) | (simp only [← hsx25, ← hsx28]; first | rfl | (simp [errW_none, errW_some] <;> rfl)) | (simp [*, errW_none, errW_some] <;> rfl), by repeat (first | (with_reducible first | exact HB.out | apply below_alloc | apply pw_below_drewN | apply below_drew1 | refine below_set ?_ GE210001.out | refine below_set ?_ GE210002.out) | exact HB.out)⟩
        ·rw [if_neg c27] at H
         exact absurd H (by simp)
       ·rw [if_neg c26] at H
        exact absurd H (by simp)
      ·rw [if_neg c24] at H
       exact absurd H (by simp)
     ·rw [if_neg c23] at H
      exact absurd H (by simp)

end Go.Proofs.Ytmkncddbecmlpaa.Pr
