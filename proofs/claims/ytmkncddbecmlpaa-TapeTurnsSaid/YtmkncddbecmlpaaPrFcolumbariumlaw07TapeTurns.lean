-- Written by wip/tools/xprint.py, a patched run of the kit's print: not typed by hand.
import Derived.Test.YtmkncddbecmlpaaPr0
import Derived.Test.YtmkncddbecmlpaaPrE0
import Derived.Test.YtmkncddbecmlpaaPrFcolumbariumlaw07Tape
import Derived.Test.YtmkncddbecmlpaaPrFcolumbariumlaw07awake
import Derived.Test.YtmkncddbecmlpaaPrFcolumbariumlaw07pick
import Derived.Test.YtmkncddbecmlpaaPrFtapeLeft
import Derived.Test.YtmkncddbecmlpaaPrFtapeTurn
namespace Go.Proofs.Ytmkncddbecmlpaa.Pr
open Go.RowKit Go.Proofs.YtmkncddbecmlpaaW.PrintWords Go.Proofs.YtmkncddbecmlpaaW.PrintLast Go.Proofs.YtmkncddbecmlpaaW.PrintMore
attribute [local go_sem] max2_int min2_int max_two min_two max_three min_three max_four min_four   -- for this text's walks alone
set_option linter.unusedVariables false
set_option linter.unusedSimpArgs false

attribute [local go_sem high] eqA23
/-! ### columbariumlaw07_TapeTurns: function 5 -/
mutual
def columbariumlaw07_TapeTurns.l0 : Nat → Bool → Int → List Int → Int → ByteArray → Int → Option (Bool)
  | 0, _, _, _, _, _, _ => none
  | k + 1, x7, x9, x10, x11, x50005000, x50005001 => if x11 < x9 then (if x10.length < 17592186044416 then (columbariumlaw07_TapeTurns.l0 k x7 x9 (x10 ++ [x11]) (wrap64 (x11 + 1)) x50005000 x50005001) else (none)) else ((tape_Turn.f x50005000 x50005001 x10).bind fun bt50009 => ((tape_Left.f x50005000 x50005001).bind fun t50016 => (if t50016 < (wrap64 (2 * (mx (wrap64 (x9 - 1)) 0))) then (if x7 = true then (if bt50009.2.2.2 = 12 then (if (bt50009.1.length : Int) = 0 then (some (bt50009.2.1.toList == x50005000.toList && (bt50009.2.2.1 == x50005001))) else (none)) else (none)) else (none)) else (if bt50009.2.2.2 = 0 then (if (bt50009.1.length : Int) = x9 then (columbariumlaw07_TapeTurns.j1 k x7 x9 bt50009.1 (bt50009.2.2.1 != (wrap64 (x50005001 + (wrap64 (2 * (mx (wrap64 (x9 - 1)) 0))))))) else (columbariumlaw07_TapeTurns.j1 k x7 x9 bt50009.1 true)) else (columbariumlaw07_TapeTurns.j1 k x7 x9 bt50009.1 true)))))
def columbariumlaw07_TapeTurns.j1 : Nat → Bool → Int → List Int → Bool → Option (Bool)
  | 0, _, _, _, _ => none
  | k + 1, x7, x9, x12, x80 => if x80 = true then (none) else (if 0 ≤ x9 then (if (x9 : Int).toNat ≤ 281474976710656 then (columbariumlaw07_TapeTurns.l1 k x7 x9 x12 (List.replicate (x9 : Int).toNat false) 0) else (none)) else (none))
def columbariumlaw07_TapeTurns.l1 : Nat → Bool → Int → List Int → List Bool → Int → Option (Bool)
  | 0, _, _, _, _, _ => none
  | k + 1, x7, x9, x12, x15, x16 => if x16 < x9 then (if 0 ≤ x16 then (if x16 < (x12.length : Int) then (if (rd x12 x16) < 0 then (none) else (if (rd x12 x16) ≥ x9 then (none) else (if 0 ≤ (rd x12 x16) then (if (rd x12 x16) < (x15.length : Int) then (if rdOf false x15 (rd x12 x16) = true then (none) else (columbariumlaw07_TapeTurns.l1 k x7 x9 x12 (x15.set ((rd x12 x16) : Int).toNat true) (wrap64 (x16 + 1)))) else (none)) else (none)))) else (none)) else (none)) else (some x7)
end
def columbariumlaw07_TapeTurns.f (k : Nat) (a0 : ByteArray) (a1 : Int) (a2 : Int) : Option (Bool) := (columbariumlaw07_awake.f k).bind fun t50001 => ((columbariumlaw07_Tape.f a0 a1).bind fun bt50002 => ((columbariumlaw07_pick.f a2 40).bind fun t50005 => (columbariumlaw07_TapeTurns.l0 k t50001 t50005 ([] : List Int) 0 bt50002.1 bt50002.2)))
theorem columbariumlaw07_TapeTurns.mono_l : ∀ k, (∀ y0 y1 y2 y3 y4 y5, LeO (columbariumlaw07_TapeTurns.l0 k y0 y1 y2 y3 y4 y5) (columbariumlaw07_TapeTurns.l0 (k + 1) y0 y1 y2 y3 y4 y5)) ∧ (∀ y0 y1 y2 y3, LeO (columbariumlaw07_TapeTurns.j1 k y0 y1 y2 y3) (columbariumlaw07_TapeTurns.j1 (k + 1) y0 y1 y2 y3)) ∧ (∀ y0 y1 y2 y3 y4, LeO (columbariumlaw07_TapeTurns.l1 k y0 y1 y2 y3 y4) (columbariumlaw07_TapeTurns.l1 (k + 1) y0 y1 y2 y3 y4))
  | 0 => ⟨fun _ _ _ _ _ _ r h => by simp [columbariumlaw07_TapeTurns.l0] at h, fun _ _ _ _ r h => by simp [columbariumlaw07_TapeTurns.j1] at h, fun _ _ _ _ _ r h => by simp [columbariumlaw07_TapeTurns.l1] at h⟩
  | k + 1 => by
    obtain ⟨ih0, ih1, ih2⟩ := columbariumlaw07_TapeTurns.mono_l k
    refine ⟨?_, ?_, ?_⟩
    · intro y0 y1 y2 y3 y4 y5
      unfold columbariumlaw07_TapeTurns.l0
      repeat' first
      | (with_reducible exact ih0 _ _ _ _ _ _)
      | (with_reducible exact ih1 _ _ _ _)
      | (with_reducible exact ih2 _ _ _ _ _)
      | (with_reducible exact columbariumlaw07_awake.mono _)
      | (with_reducible exact LeO.refl _)
      | (with_reducible exact LeO.none _)
      | (with_reducible refine LeO.ite ?_ ?_)
      | (with_reducible refine LeO.bind ?_ (fun _ => ?_))
      | exact ih0 _ _ _ _ _ _
      | exact ih1 _ _ _ _
      | exact ih2 _ _ _ _ _
      | exact columbariumlaw07_awake.mono _
      | exact LeO.none _
      | refine LeO.ite ?_ ?_
      | refine LeO.bind ?_ (fun _ => ?_)
    · intro y0 y1 y2 y3
      unfold columbariumlaw07_TapeTurns.j1
      repeat' first
      | (with_reducible exact ih0 _ _ _ _ _ _)
      | (with_reducible exact ih1 _ _ _ _)
      | (with_reducible exact ih2 _ _ _ _ _)
      | (with_reducible exact columbariumlaw07_awake.mono _)
      | (with_reducible exact LeO.refl _)
      | (with_reducible exact LeO.none _)
      | (with_reducible refine LeO.ite ?_ ?_)
      | (with_reducible refine LeO.bind ?_ (fun _ => ?_))
      | exact ih0 _ _ _ _ _ _
      | exact ih1 _ _ _ _
      | exact ih2 _ _ _ _ _
      | exact columbariumlaw07_awake.mono _
      | exact LeO.none _
      | refine LeO.ite ?_ ?_
      | refine LeO.bind ?_ (fun _ => ?_)
    · intro y0 y1 y2 y3 y4
      unfold columbariumlaw07_TapeTurns.l1
      repeat' first
      | (with_reducible exact ih0 _ _ _ _ _ _)
      | (with_reducible exact ih1 _ _ _ _)
      | (with_reducible exact ih2 _ _ _ _ _)
      | (with_reducible exact columbariumlaw07_awake.mono _)
      | (with_reducible exact LeO.refl _)
      | (with_reducible exact LeO.none _)
      | (with_reducible refine LeO.ite ?_ ?_)
      | (with_reducible refine LeO.bind ?_ (fun _ => ?_))
      | exact ih0 _ _ _ _ _ _
      | exact ih1 _ _ _ _
      | exact ih2 _ _ _ _ _
      | exact columbariumlaw07_awake.mono _
      | exact LeO.none _
      | refine LeO.ite ?_ ?_
      | refine LeO.bind ?_ (fun _ => ?_)
theorem columbariumlaw07_TapeTurns.mono : ∀ a0 a1 a2 k, LeO (columbariumlaw07_TapeTurns.f k a0 a1 a2) (columbariumlaw07_TapeTurns.f (k + 1) a0 a1 a2) := by
  intro a0 a1 a2 k
  obtain ⟨ih0, ih1, ih2⟩ := columbariumlaw07_TapeTurns.mono_l k
  unfold columbariumlaw07_TapeTurns.f
  repeat' first
      | (with_reducible exact ih0 _ _ _ _ _ _)
      | (with_reducible exact ih1 _ _ _ _)
      | (with_reducible exact ih2 _ _ _ _ _)
      | (with_reducible exact columbariumlaw07_awake.mono _)
      | (with_reducible exact LeO.refl _)
      | (with_reducible exact LeO.none _)
      | (with_reducible refine LeO.ite ?_ ?_)
      | (with_reducible refine LeO.bind ?_ (fun _ => ?_))
      | exact ih0 _ _ _ _ _ _
      | exact ih1 _ _ _ _
      | exact ih2 _ _ _ _ _
      | exact columbariumlaw07_awake.mono _
      | exact LeO.none _
      | refine LeO.ite ?_ ?_
      | refine LeO.bind ?_ (fun _ => ?_)
set_option maxHeartbeats 8000000 in
set_option maxRecDepth 100000 in
theorem columbariumlaw07_TapeTurns.calls (k : Nat) (a0 : ByteArray) (a1 : Int) (a2 : Int) (r : Bool) (w : World) (h : columbariumlaw07_TapeTurns.f k a0 a1 a2 = some r) :
    Calls Try.prog 5 #[.string a0, .int .i64 a1, .int .i64 a2] w fun e w' => e = .returned (.bool r) ∧ Below w.heap.size w w' := by
  have hu23 := Try.underlying23
  have HB := Aside0.mk (Below.refl w.heap.size w)
  have H : ((columbariumlaw07_awake.f k).bind fun t50001 => ((columbariumlaw07_Tape.f a0 a1).bind fun bt50002 => ((columbariumlaw07_pick.f a2 40).bind fun t50005 => (columbariumlaw07_TapeTurns.l0 k t50001 t50005 ([] : List Int) 0 bt50002.1 bt50002.2)))) = some r := h
  clear h
  replace H := Option.bind_eq_some_iff.mp H
  obtain ⟨t50001, A40, H⟩ := H
  replace H : ((columbariumlaw07_Tape.f a0 a1).bind fun bt50002 => ((columbariumlaw07_pick.f a2 40).bind fun t50005 => (columbariumlaw07_TapeTurns.l0 k t50001 t50005 ([] : List Int) 0 bt50002.1 bt50002.2))) = some r := H
  have A4 := Aside0.mk A40
  clear A40
  replace H := Option.bind_eq_some_iff.mp H
  obtain ⟨⟨t50002, t50003⟩, A50, H⟩ := H
  replace H : ((columbariumlaw07_pick.f a2 40).bind fun t50005 => (columbariumlaw07_TapeTurns.l0 k t50001 t50005 ([] : List Int) 0 t50002 t50003)) = some r := H
  have A5 := Aside0.mk A50
  clear A50
  replace H := Option.bind_eq_some_iff.mp H
  obtain ⟨t50005, A60, H⟩ := H
  replace H : (columbariumlaw07_TapeTurns.l0 k t50001 t50005 ([] : List Int) 0 t50002 t50003) = some r := H
  have A6 := Aside0.mk A60
  clear A60
  have H' := Aside0.mk H
  clear H
  go_enter Try.func5, Try.ntmps5
  go_wp2_with (first | ((with_reducible refine gate_callee (f := 14) rfl ?_); refine goesL_ (some 17) rfl rfl Try.func14 (by kernel_rfl) rfl #[] rfl (by (try simp only [List.map_toArray, List.map_cons, List.map_nil]); first | done | rfl | (simp only [List.length_drop, List.length_take]; rfl)) ?_; (with_reducible refine (columbariumlaw07_awake.calls k  t50001 _ A4.out).mono ?_); rintro e w7 ⟨rfl, hb⟩; refine ⟨_, rfl, ?_⟩; have n0_ := Aside0.mk (below_step (by repeat (first | (with_reducible first | exact HB.out | apply below_alloc | apply pw_below_drewN | apply below_drew1) | exact HB.out)) hb); clear HB; have HB := n0_; clear n0_; (try clear hb); (try clear hb2); (try clear hk); (try clear hi)) | ((with_reducible refine gate_callee (f := 15) rfl ?_); refine goesL_ (some 20) rfl rfl Try.func15 (by kernel_rfl) rfl #[.string a0, .int .i64 a1] rfl (by (try simp only [List.map_toArray, List.map_cons, List.map_nil]); first | done | rfl | (simp only [List.length_drop, List.length_take]; rfl)) ?_; (with_reducible refine (columbariumlaw07_Tape.calls a0 a1 t50002 t50003 _ A5.out).mono ?_); rintro e w8 ⟨rfl, hb⟩; refine ⟨_, rfl, ?_⟩; have n0_ := Aside0.mk (below_step (by repeat (first | (with_reducible first | exact HB.out | apply below_alloc | apply pw_below_drewN | apply below_drew1) | exact HB.out)) hb); clear HB; have HB := n0_; clear n0_; (try clear hb); (try clear hb2); (try clear hk); (try clear hi)) | ((with_reducible refine gate_dst (N := 8) rfl ?_); (try (refine gate_guard (by rfl) ?_; dsimp only)); refine box_event ?hg (N := 8) ?hd (cs := #[.string (⟨#[]⟩ : ByteArray), .int .i64 0]) (t := 23) ?hr ?_; (case hd => rfl); (case hg => rfl); (case hr => first | (go_simp; done) | (go_simp; rfl)); intro gb50004 hg w9 hbox hb; have n0_ := Aside0.mk (below_step (by repeat (first | (with_reducible first | exact HB.out | apply below_alloc | apply pw_below_drewN | apply below_drew1) | exact HB.out)) hb); have n1_ := Aside0.mk (hbox); have n2_ := Aside0.mk ((by rw [hg]; exact (below_size (by repeat (first | (with_reducible first | exact HB.out | apply below_alloc | apply pw_below_drewN | apply below_drew1) | exact HB.out))) : w.heap.size ≤ gb50004)); have n3_ := Aside0.mk ((by rw [hg]; exact (below_size (by repeat (first | (with_reducible first | exact HB.out | apply below_alloc | apply pw_below_drewN | apply below_drew1) | exact HB.out))) : w.heap.size ≤ gb50004)); clear HB; have HB := n0_; have BK50004 := n1_; have GW50004 := n2_; have GE50004 := n3_; clear n0_ n1_ n2_ n3_; clear hb hbox hg; have hcz10_0 : w9.cell? ⟨gb50004, 0, none⟩ = some (.string (⟨#[]⟩ : ByteArray)) := (blk_cell BK50004.out 0).trans rfl; have hcz10_1 : w9.cell? ⟨gb50004, 1, none⟩ = some (.int .i64 0) := (blk_cell BK50004.out 1).trans rfl; have hfz10_0 := blk_frozen BK50004.out 0; have hfz10_1 := blk_frozen BK50004.out 1) | ((with_reducible refine gate_callee (f := 20) rfl ?_); refine goesL_ (some 22) rfl rfl Try.func20 (by kernel_rfl) rfl #[.int .i64 a2, .int .i64 40] rfl (by (try simp only [List.map_toArray, List.map_cons, List.map_nil]); first | done | rfl | (simp only [List.length_drop, List.length_take]; rfl)) ?_; (with_reducible refine (columbariumlaw07_pick.calls a2 40 t50005 _ A6.out).mono ?_); rintro e w' ⟨rfl, ⟨nd, rfl⟩⟩; refine ⟨_, rfl, ?_⟩))
  go_loopg [10, 11] k (fun kq v10 v11 w' => ∃ (x10_1 : List Int) (x11_1 : Int), v11 = .int .i64 x11_1 ∧ Aside0 (columbariumlaw07_TapeTurns.l0 kq t50001 t50005 x10_1 x11_1 t50002 t50003 = some r) ∧ Aside0 (kq ≤ k) ∧ Aside0 (Kd.R (Kd.int .i64) 3 w' w.heap.size (fun _ => True) v10 x10_1) ∧ Aside0 (w'.heap[gb50004]? = some (.cells #[.string t50002, .int .i64 t50003] 23 (0, 0))) ∧ Aside0 (Below w.heap.size w w'))
  case atStart => exact ⟨(([] : List Int)), (0), (by first | rfl | (simp; done) | (simp [*]; done)), H', ⟨Nat.le_refl _⟩, ⟨by first | exact Kd.R_nil _ _ _ _ _ | exact Kd.N_nil _ _ _ _ _ | exact Kd.V_nil _ _ _ _ _ | exact Kd.Q_nil _ _ _ _ _ | exact Kd.S_nil _ _ _ _ _⟩, ⟨by (with_reducible repeat (first | refine blk_drewN ?_ _ | refine blk_drew ?_ | refine blk_alloc ?_ _)); refine blk_put (cs := #[.string t50002, .int .i64 0]) ?_ 1 _ rfl; (with_reducible repeat (first | refine blk_drewN ?_ _ | refine blk_drew ?_ | refine blk_alloc ?_ _)); refine blk_put (cs := #[.string (⟨#[]⟩ : ByteArray), .int .i64 0]) ?_ 0 _ rfl; (with_reducible repeat (first | refine blk_drewN ?_ _ | refine blk_drew ?_ | refine blk_alloc ?_ _)); exact BK50004.out⟩, ⟨by repeat (first | (with_reducible first | exact HB.out | apply below_alloc | apply pw_below_drewN | apply below_drew1 | refine below_set ?_ GE50004.out) | exact HB.out)⟩⟩
  case round =>
    clear H'
    try clear c1
    try clear c2
    try clear p2
    try clear c5
    try clear hcz10_0
    try clear hcz10_1
    try clear hfz10_0
    try clear hfz10_1
    obtain ⟨x10_1, x11_1, rfl, HA, HK1, HO_10, BK50004, HB⟩ := hrel
    cases gk with
    | zero => exact absurd HA.out (by simp [columbariumlaw07_TapeTurns.l0])
    | succ k1 =>
      have H := HA.out
      clear HA
      simp only [columbariumlaw07_TapeTurns.l0] at H
      by_cases c11 : x11_1 < t50005
      · rw [if_pos c11] at H
        have c11b0 : decide (x11_1 < t50005) = true := decide_eq_true c11
        clear c11
        by_cases c12 : x10_1.length < 17592186044416
        · rw [if_pos c12] at H
          have LMc12 := Aside0.mk c12
          clear c12
          obtain ⟨y50006, hy50006⟩ : ∃ y_ : List Int, y_ = (x10_1 ++ [x11_1]) := ⟨_, rfl⟩
          replace H : (columbariumlaw07_TapeTurns.l0 k1 t50001 t50005 y50006 (wrap64 (x11_1 + 1)) t50002 t50003) = some r := by first | (rw [hy50006]; with_reducible exact H) | (have H2_ := (Option.bind_some _ _).symm.trans H; rw [hy50006]; with_reducible exact H2_) | (have H2_ := (Option.bind_some _ _).symm.trans H; with_reducible exact H2_) | with_reducible exact H | (rw [hy50006]; exact H) | exact H
          have Ny50006 := Aside0.mk hy50006
          clear hy50006
          have H' := Aside0.mk H
          clear H
          go_wp2_with (first | ((with_reducible refine gate_builtin (b := .append) (xs := #[.tmp 28, .tmp 30]) rfl ?_); (try (refine gate_guard (by rfl) ?_; dsimp only)); at_builtin; refine Kd.R_append (Kd.int .i64) (w0 := w) w.heap.size rfl (.tmp 28) (.tmp 30) 24 3 (.int .i64 0) 8 rfl Try.underlying24 info3 rfl (by decide) (by omega) u10 x10_1 x11_1 [.int .i64 x11_1] (fun _ => True) (fun _ => False) rfl rfl ?aP (fun _ hk => hk.elim) ?aF ?aO ?aB ?aS ?aL ?_; (case aP => exact rfl); (case aB => exact (by repeat (first | (with_reducible first | exact HB.out | apply below_alloc | apply pw_below_drewN | apply below_drew1 | refine below_set ?_ GE50004.out) | exact HB.out))); (case aF => exact (fun _ _ => trivial)); (case aO => exact (by (with_reducible repeat (first | apply Kd.R_alloc | apply Kd.R_drewN | apply Kd.R_drew)); exact HO_10.out)); (case aS => exact (below_size (by repeat (first | (with_reducible first | exact HB.out | apply below_alloc | apply pw_below_drewN | apply below_drew1 | refine below_set ?_ GE50004.out) | exact HB.out)))); (case aL => have := LMc12.out; omega); intro v50007 w13 ho hb hg hat; rw [← Ny50006.out] at ho; have n0_ := Aside0.mk (blk_grown (g := gb50004) (o := .cells #[.string t50002, .int .i64 t50003] 23 (0, 0)) (by (with_reducible repeat (first | refine blk_drewN ?_ _ | refine blk_drew ?_ | refine blk_alloc ?_ _)); exact BK50004.out) hg (Kd.R_ne HO_10.out BK50004.out (by decide))); have n1_ := Aside0.mk (hb); have n2_ := Aside0.mk (ho); clear BK50004; clear HB; clear HO_10; have BK50004 := n0_; have HB := n1_; have HO50008 := n2_; clear n0_ n1_ n2_; clear ho hb hg hat))
          go_roundg k1
          case measure => have := HK1.out; omega
          case rel => exact ⟨(y50006), (wrap64 (x11_1 + 1)), (by first | rfl | (simp; done) | (simp [*]; done)), H', ⟨by have := HK1.out; omega⟩, ⟨by (with_reducible repeat (first | apply Kd.R_alloc | apply Kd.R_drewN | apply Kd.R_drew)); exact HO50008.out⟩, ⟨by (with_reducible repeat (first | refine blk_drewN ?_ _ | refine blk_drew ?_ | refine blk_alloc ?_ _)); exact BK50004.out⟩, ⟨by repeat (first | (with_reducible first | exact HB.out | apply below_alloc | apply pw_below_drewN | apply below_drew1 | refine below_set ?_ GE50004.out) | exact HB.out)⟩⟩
        · rw [if_neg c12] at H
          exact absurd H (by simp)
      · rw [if_neg c11] at H
        have c11b0 : decide (x11_1 < t50005) = false := decide_eq_false c11
        clear c11
        replace H := Option.bind_eq_some_iff.mp H
        obtain ⟨⟨t50009, t50012, t50013, t50014⟩, A140, H⟩ := H
        replace H : ((tape_Left.f t50002 t50003).bind fun t50016 => (if t50016 < (wrap64 (2 * (mx (wrap64 (t50005 - 1)) 0))) then (if t50001 = true then (if t50014 = 12 then (if (t50009.length : Int) = 0 then (some (t50012.toList == t50002.toList && (t50013 == t50003))) else (none)) else (none)) else (none)) else (if t50014 = 0 then (if (t50009.length : Int) = t50005 then (columbariumlaw07_TapeTurns.j1 k1 t50001 t50005 t50009 (t50013 != (wrap64 (t50003 + (wrap64 (2 * (mx (wrap64 (t50005 - 1)) 0))))))) else (columbariumlaw07_TapeTurns.j1 k1 t50001 t50005 t50009 true)) else (columbariumlaw07_TapeTurns.j1 k1 t50001 t50005 t50009 true)))) = some r := H
        have A14 := Aside0.mk A140
        clear A140
        replace H := Option.bind_eq_some_iff.mp H
        obtain ⟨t50016, A150, H⟩ := H
        replace H : (if t50016 < (wrap64 (2 * (mx (wrap64 (t50005 - 1)) 0))) then (if t50001 = true then (if t50014 = 12 then (if (t50009.length : Int) = 0 then (some (t50012.toList == t50002.toList && (t50013 == t50003))) else (none)) else (none)) else (none)) else (if t50014 = 0 then (if (t50009.length : Int) = t50005 then (columbariumlaw07_TapeTurns.j1 k1 t50001 t50005 t50009 (t50013 != (wrap64 (t50003 + (wrap64 (2 * (mx (wrap64 (t50005 - 1)) 0))))))) else (columbariumlaw07_TapeTurns.j1 k1 t50001 t50005 t50009 true)) else (columbariumlaw07_TapeTurns.j1 k1 t50001 t50005 t50009 true))) = some r := H
        have A15 := Aside0.mk A150
        clear A150
        obtain ⟨ji16, hji16⟩ : ∃ j_ : Int, (mx (wrap64 (t50005 - 1)) 0) = j_ := ⟨_, rfl⟩
        replace H : (if t50016 < (wrap64 (2 * (ji16))) then (if t50001 = true then (if t50014 = 12 then (if (t50009.length : Int) = 0 then (some (t50012.toList == t50002.toList && (t50013 == t50003))) else (none)) else (none)) else (none)) else (if t50014 = 0 then (if (t50009.length : Int) = t50005 then (columbariumlaw07_TapeTurns.j1 k1 t50001 t50005 t50009 (t50013 != (wrap64 (t50003 + (wrap64 (2 * (ji16))))))) else (columbariumlaw07_TapeTurns.j1 k1 t50001 t50005 t50009 true)) else (columbariumlaw07_TapeTurns.j1 k1 t50001 t50005 t50009 true))) = some r := by first | (rw [hji16] at H; exact H) | (simp only [hji16] at H ⊢; exact H)
        (try rw [hji16] at A14)
        (try rw [hji16] at A15)
        have hji16_ : (if (wrap64 (t50005 - 1)) < 0 then 0 else (wrap64 (t50005 - 1))) = ji16 := hji16
        by_cases c17 : t50016 < (wrap64 (2 * (ji16)))
        · rw [if_pos c17] at H
          have c17b0 : decide (t50016 < (wrap64 (2 * (ji16)))) = true := decide_eq_true c17
          clear c17
          by_cases c18 : t50001 = true
          · subst c18
            have H1 : (if t50014 = 12 then (if (t50009.length : Int) = 0 then (some (t50012.toList == t50002.toList && (t50013 == t50003))) else (none)) else (none)) = some r := by rw [if_pos rfl] at H; exact H
            clear H
            have H := H1
            clear H1
            by_cases c19 : t50014 = 12
            · rw [if_pos c19] at H
              have c19b0 : (t50014 == 12) = true := beq_iff_eq.mpr c19
              have c19b1 : (t50014 != 12) = false := bne_eq_false_iff_eq.mpr c19
              clear c19
              by_cases c20 : (t50009.length : Int) = 0
              · rw [if_pos c20] at H
                have c20b0 : ((t50009.length : Int) == 0) = true := beq_iff_eq.mpr c20
                have c20b1 : ((t50009.length : Int) != 0) = false := bne_eq_false_iff_eq.mpr c20
                clear c20
                obtain rfl := Option.some.inj H
                have hcz21_0 : wr.cell? ⟨gb50004, 0, none⟩ = some (.string t50002) := (blk_cell BK50004.out 0).trans rfl
                have hcz21_1 : wr.cell? ⟨gb50004, 1, none⟩ = some (.int .i64 t50003) := (blk_cell BK50004.out 1).trans rfl
                have hfz21_0 := blk_frozen BK50004.out 0
                have hfz21_1 := blk_frozen BK50004.out 1
                obtain ⟨Ao22, co22, eo22⟩ := Kd.R_slice HO_10.out
                subst eo22
                go_wp2_with (first | ((with_reducible refine gate_callee (f := 25) rfl ?_); refine goesL_ (some 35) rfl rfl Try.func25 (by kernel_rfl) rfl #[.agg #[.string t50002, .int .i64 t50003], .slice Ao22 x10_1.length co22] rfl (by (try simp only [List.map_toArray, List.map_cons, List.map_nil]); first | done | rfl | (simp only [List.length_drop, List.length_take]; rfl)) ?_; (with_reducible refine (tape_Turn.calls t50002 t50003 _ _ x10_1 t50009 t50012 t50013 t50014 _ ?side1 ?side2 A14.out).mono ?_); (case side1 => repeat (first | exact (Kd.R_reads' HO_10.out).2.2 | (with_reducible refine Kd.C_alloc ?_ _) | (with_reducible refine Kd.C_drewN ?_ _) | (with_reducible refine Kd.C_drew ?_))); (case side2 => exact (Kd.R_reads' HO_10.out).2.1); rintro e w23 ⟨v50010, rfl, ho0, hb⟩; refine ⟨_, rfl, ?_⟩; have n0_ := Aside0.mk (Kd.R_elder' (by (with_reducible repeat (first | apply Kd.R_alloc | apply Kd.R_drewN | apply Kd.R_drew)); exact HO_10.out) (Kd.R_base ho0) hb); have n1_ := Aside0.mk (Kd.R_lower (Kd.R_new' ho0 (Kd.R_lt (by (with_reducible repeat (first | apply Kd.R_alloc | apply Kd.R_drewN | apply Kd.R_drew)); exact HO_10.out))) (below_size (by repeat (first | (with_reducible first | exact HB.out | apply below_alloc | apply pw_below_drewN | apply below_drew1 | refine below_set ?_ GE50004.out) | exact HB.out)))); have n2_ := Aside0.mk (blk_below (g := gb50004) (o := .cells #[.string t50002, .int .i64 t50003] 23 (0, 0)) (by (with_reducible repeat (first | refine blk_drewN ?_ _ | refine blk_drew ?_ | refine blk_alloc ?_ _)); exact BK50004.out) hb); have n3_ := Aside0.mk (below_step (by repeat (first | (with_reducible first | exact HB.out | apply below_alloc | apply pw_below_drewN | apply below_drew1 | refine below_set ?_ GE50004.out) | exact HB.out)) hb); clear HO_10; clear BK50004; clear HB; have HO_10 := n0_; have HO50011 := n1_; have BK50004 := n2_; have HB := n3_; clear n0_ n1_ n2_ n3_; (try clear hb); (try clear hb2); (try clear hk); (try clear hi); (try clear ho0)) | ((with_reducible refine gate_dst (N := 13) rfl ?_); (try (refine gate_guard (by rfl) ?_; dsimp only)); refine box_event ?hg (N := 13) ?hd (cs := #[.string (⟨#[]⟩ : ByteArray), .int .i64 0]) (t := 23) ?hr ?_; (case hd => rfl); (case hg => rfl); (case hr => first | (go_simp; done) | (go_simp; rfl)); intro gb50015 hg w24 hbox hb; have n0_ := Aside0.mk (Kd.R_below (by (with_reducible repeat (first | apply Kd.R_alloc | apply Kd.R_drewN | apply Kd.R_drew)); exact HO_10.out) hb); have n1_ := Aside0.mk (Kd.R_below (by (with_reducible repeat (first | apply Kd.R_alloc | apply Kd.R_drewN | apply Kd.R_drew)); exact HO50011.out) hb); have n2_ := Aside0.mk (blk_below (g := gb50004) (o := .cells #[.string t50002, .int .i64 t50003] 23 (0, 0)) (by (with_reducible repeat (first | refine blk_drewN ?_ _ | refine blk_drew ?_ | refine blk_alloc ?_ _)); exact BK50004.out) hb); have n3_ := Aside0.mk (below_step (by repeat (first | (with_reducible first | exact HB.out | apply below_alloc | apply pw_below_drewN | apply below_drew1 | refine below_set ?_ GE50004.out) | exact HB.out)) hb); have n4_ := Aside0.mk (hbox); have n5_ := Aside0.mk ((by rw [hg]; exact (below_size (by repeat (first | (with_reducible first | exact HB.out | apply below_alloc | apply pw_below_drewN | apply below_drew1 | refine below_set ?_ GE50004.out) | exact HB.out))) : w.heap.size ≤ gb50015)); have n6_ := Aside0.mk ((by rw [hg]; exact (below_size (by repeat (first | (with_reducible first | exact HB.out | apply below_alloc | apply pw_below_drewN | apply below_drew1 | refine below_set ?_ GE50004.out) | exact HB.out))) : w.heap.size ≤ gb50015)); have n7_ := Aside0.mk ((by rw [hg]; exact Nat.ne_of_lt (blk_lt (g := gb50004) (o := .cells #[.string t50002, .int .i64 t50003] 23 (0, 0)) (by (with_reducible repeat (first | refine blk_drewN ?_ _ | refine blk_drew ?_ | refine blk_alloc ?_ _)); exact BK50004.out)) : gb50004 ≠ gb50015)); have n8_ := Aside0.mk ((by rw [hg]; exact Nat.ne_of_gt (blk_lt (g := gb50004) (o := .cells #[.string t50002, .int .i64 t50003] 23 (0, 0)) (by (with_reducible repeat (first | refine blk_drewN ?_ _ | refine blk_drew ?_ | refine blk_alloc ?_ _)); exact BK50004.out)) : gb50015 ≠ gb50004)); clear HO_10; clear HO50011; clear BK50004; clear HB; have HO_10 := n0_; have HO50011 := n1_; have BK50004 := n2_; have HB := n3_; have BK50015 := n4_; have GW50015 := n5_; have GE50015 := n6_; have NB50004_50015 := n7_; have NB50015_50004 := n8_; clear n0_ n1_ n2_ n3_ n4_ n5_ n6_ n7_ n8_; clear hb hbox hg; have hnb25 := NB50015_50004.out; have hnc25 := NB50004_50015.out; have hcz26_0 : w24.cell? ⟨gb50015, 0, none⟩ = some (.string (⟨#[]⟩ : ByteArray)) := (blk_cell BK50015.out 0).trans rfl; have hcz26_1 : w24.cell? ⟨gb50015, 1, none⟩ = some (.int .i64 0) := (blk_cell BK50015.out 1).trans rfl; have hfz26_0 := blk_frozen BK50015.out 0; have hfz26_1 := blk_frozen BK50015.out 1; have hcz27_0 : w24.cell? ⟨gb50004, 0, none⟩ = some (.string t50002) := (blk_cell BK50004.out 0).trans rfl; have hcz27_1 : w24.cell? ⟨gb50004, 1, none⟩ = some (.int .i64 t50003) := (blk_cell BK50004.out 1).trans rfl; have hfz27_0 := blk_frozen BK50004.out 0; have hfz27_1 := blk_frozen BK50004.out 1) | ((with_reducible refine gate_callee (f := 18) rfl ?_); refine goesL_ (some 40) rfl rfl Try.func18 (by kernel_rfl) rfl #[.agg #[.string t50002, .int .i64 t50003]] rfl (by (try simp only [List.map_toArray, List.map_cons, List.map_nil]); first | done | rfl | (simp only [List.length_drop, List.length_take]; rfl)) ?_; (with_reducible refine (tape_Left.calls t50002 t50003 t50016 _ A15.out).mono ?_); rintro e w28 ⟨rfl, hb⟩; refine ⟨_, rfl, ?_⟩; have n0_ := Aside0.mk (Kd.R_below (by (with_reducible repeat (first | apply Kd.R_alloc | apply Kd.R_drewN | apply Kd.R_drew)); exact (Kd.R_mono (Kd.R_far (p := ⟨gb50015, 1, none⟩) (Kd.R_far (p := ⟨gb50015, 0, none⟩) (Kd.R_types HO_10.out BK50015.out (by decide)) (fun _ hk => hk.2) (.string t50012)) (fun _ hk => hk.2) (.int .i64 t50013)) (fun _ h_ => h_.1))) hb); have n1_ := Aside0.mk (Kd.R_below (by (with_reducible repeat (first | apply Kd.R_alloc | apply Kd.R_drewN | apply Kd.R_drew)); exact (Kd.R_mono (Kd.R_far (p := ⟨gb50015, 1, none⟩) (Kd.R_far (p := ⟨gb50015, 0, none⟩) (Kd.R_types HO50011.out BK50015.out (by decide)) (fun _ hk => hk.2) (.string t50012)) (fun _ hk => hk.2) (.int .i64 t50013)) (fun _ h_ => h_.1))) hb); have n2_ := Aside0.mk (blk_below (g := gb50004) (o := .cells #[.string t50002, .int .i64 t50003] 23 (0, 0)) (by (with_reducible repeat (first | refine blk_drewN ?_ _ | refine blk_drew ?_ | refine blk_alloc ?_ _)); refine blk_far ?_ NB50004_50015.out _; (with_reducible repeat (first | refine blk_drewN ?_ _ | refine blk_drew ?_ | refine blk_alloc ?_ _)); refine blk_far ?_ NB50004_50015.out _; (with_reducible repeat (first | refine blk_drewN ?_ _ | refine blk_drew ?_ | refine blk_alloc ?_ _)); exact BK50004.out) hb); have n3_ := Aside0.mk (blk_below (g := gb50015) (o := .cells #[.string t50012, .int .i64 t50013] 23 (0, 0)) (by (with_reducible repeat (first | refine blk_drewN ?_ _ | refine blk_drew ?_ | refine blk_alloc ?_ _)); refine blk_put (cs := #[.string t50012, .int .i64 0]) ?_ 1 _ rfl; (with_reducible repeat (first | refine blk_drewN ?_ _ | refine blk_drew ?_ | refine blk_alloc ?_ _)); refine blk_put (cs := #[.string (⟨#[]⟩ : ByteArray), .int .i64 0]) ?_ 0 _ rfl; (with_reducible repeat (first | refine blk_drewN ?_ _ | refine blk_drew ?_ | refine blk_alloc ?_ _)); exact BK50015.out) hb); have n4_ := Aside0.mk (below_step (by repeat (first | (with_reducible first | exact HB.out | apply below_alloc | apply pw_below_drewN | apply below_drew1 | refine below_set ?_ GE50004.out | refine below_set ?_ GE50015.out) | exact HB.out)) hb); clear HO_10; clear HO50011; clear BK50004; clear BK50015; clear HB; have HO_10 := n0_; have HO50011 := n1_; have BK50004 := n2_; have BK50015 := n3_; have HB := n4_; clear n0_ n1_ n2_ n3_ n4_; (try clear hb); (try clear hb2); (try clear hk); (try clear hi); obtain ⟨Ao29, co29, eo29⟩ := Kd.R_slice HO50011.out; subst eo29; have hcz30_0 : w28.cell? ⟨gb50015, 0, none⟩ = some (.string t50012) := (blk_cell BK50015.out 0).trans rfl; have hcz30_1 : w28.cell? ⟨gb50015, 1, none⟩ = some (.int .i64 t50013) := (blk_cell BK50015.out 1).trans rfl; have hfz30_0 := blk_frozen BK50015.out 0; have hfz30_1 := blk_frozen BK50015.out 1; have hcz31_0 : w28.cell? ⟨gb50004, 0, none⟩ = some (.string t50002) := (blk_cell BK50004.out 0).trans rfl; have hcz31_1 : w28.cell? ⟨gb50004, 1, none⟩ = some (.int .i64 t50003) := (blk_cell BK50004.out 1).trans rfl; have hfz31_0 := blk_frozen BK50004.out 0; have hfz31_1 := blk_frozen BK50004.out 1))
                go_ret
                exact ⟨by first | rfl | (simp [errW_none, errW_some] <;> rfl) | (simp only [← hji16]; first | rfl | (simp [errW_none, errW_some] <;> rfl)) | (simp [*, errW_none, errW_some] <;> rfl), by repeat (first | (with_reducible first | exact HB.out | apply below_alloc | apply pw_below_drewN | apply below_drew1 | refine below_set ?_ GE50004.out | refine below_set ?_ GE50015.out) | exact HB.out)⟩
              · rw [if_neg c20] at H
                exact absurd H (by simp)
            · rw [if_neg c19] at H
              exact absurd H (by simp)
          · replace c18 := Bool.eq_false_iff.mpr c18
            subst c18
            have H1 : (none) = some r := by rw [if_neg (show ¬ (false = true) by decide)] at H; exact H
            clear H
            have H := H1
            clear H1
            exact absurd H (by simp)
        · rw [if_neg c17] at H
          have c17b0 : decide (t50016 < (wrap64 (2 * (ji16)))) = false := decide_eq_false c17
          clear c17
          have HC32 := Aside0.mk H
          clear H
          have hcz33_0 : wr.cell? ⟨gb50004, 0, none⟩ = some (.string t50002) := (blk_cell BK50004.out 0).trans rfl
          have hcz33_1 : wr.cell? ⟨gb50004, 1, none⟩ = some (.int .i64 t50003) := (blk_cell BK50004.out 1).trans rfl
          have hfz33_0 := blk_frozen BK50004.out 0
          have hfz33_1 := blk_frozen BK50004.out 1
          obtain ⟨Ao34, co34, eo34⟩ := Kd.R_slice HO_10.out
          subst eo34
          go_upto_region 12 with (first | ((with_reducible refine gate_callee (f := 25) rfl ?_); refine goesL_ (some 35) rfl rfl Try.func25 (by kernel_rfl) rfl #[.agg #[.string t50002, .int .i64 t50003], .slice Ao34 x10_1.length co34] rfl (by (try simp only [List.map_toArray, List.map_cons, List.map_nil]); first | done | rfl | (simp only [List.length_drop, List.length_take]; rfl)) ?_; (with_reducible refine (tape_Turn.calls t50002 t50003 _ _ x10_1 t50009 t50012 t50013 t50014 _ ?side1 ?side2 A14.out).mono ?_); (case side1 => repeat (first | exact (Kd.R_reads' HO_10.out).2.2 | (with_reducible refine Kd.C_alloc ?_ _) | (with_reducible refine Kd.C_drewN ?_ _) | (with_reducible refine Kd.C_drew ?_))); (case side2 => exact (Kd.R_reads' HO_10.out).2.1); rintro e w35 ⟨v50010, rfl, ho0, hb⟩; refine ⟨_, rfl, ?_⟩; have n0_ := Aside0.mk (Kd.R_elder' (by (with_reducible repeat (first | apply Kd.R_alloc | apply Kd.R_drewN | apply Kd.R_drew)); exact HO_10.out) (Kd.R_base ho0) hb); have n1_ := Aside0.mk (Kd.R_lower (Kd.R_new' ho0 (Kd.R_lt (by (with_reducible repeat (first | apply Kd.R_alloc | apply Kd.R_drewN | apply Kd.R_drew)); exact HO_10.out))) (below_size (by repeat (first | (with_reducible first | exact HB.out | apply below_alloc | apply pw_below_drewN | apply below_drew1 | refine below_set ?_ GE50004.out) | exact HB.out)))); have n2_ := Aside0.mk (blk_below (g := gb50004) (o := .cells #[.string t50002, .int .i64 t50003] 23 (0, 0)) (by (with_reducible repeat (first | refine blk_drewN ?_ _ | refine blk_drew ?_ | refine blk_alloc ?_ _)); exact BK50004.out) hb); have n3_ := Aside0.mk (below_step (by repeat (first | (with_reducible first | exact HB.out | apply below_alloc | apply pw_below_drewN | apply below_drew1 | refine below_set ?_ GE50004.out) | exact HB.out)) hb); clear HO_10; clear BK50004; clear HB; have HO_10 := n0_; have HO50011 := n1_; have BK50004 := n2_; have HB := n3_; clear n0_ n1_ n2_ n3_; (try clear hb); (try clear hb2); (try clear hk); (try clear hi); (try clear ho0)) | ((with_reducible refine gate_dst (N := 13) rfl ?_); (try (refine gate_guard (by rfl) ?_; dsimp only)); refine box_event ?hg (N := 13) ?hd (cs := #[.string (⟨#[]⟩ : ByteArray), .int .i64 0]) (t := 23) ?hr ?_; (case hd => rfl); (case hg => rfl); (case hr => first | (go_simp; done) | (go_simp; rfl)); intro gb50015 hg w36 hbox hb; have n0_ := Aside0.mk (Kd.R_below (by (with_reducible repeat (first | apply Kd.R_alloc | apply Kd.R_drewN | apply Kd.R_drew)); exact HO_10.out) hb); have n1_ := Aside0.mk (Kd.R_below (by (with_reducible repeat (first | apply Kd.R_alloc | apply Kd.R_drewN | apply Kd.R_drew)); exact HO50011.out) hb); have n2_ := Aside0.mk (blk_below (g := gb50004) (o := .cells #[.string t50002, .int .i64 t50003] 23 (0, 0)) (by (with_reducible repeat (first | refine blk_drewN ?_ _ | refine blk_drew ?_ | refine blk_alloc ?_ _)); exact BK50004.out) hb); have n3_ := Aside0.mk (below_step (by repeat (first | (with_reducible first | exact HB.out | apply below_alloc | apply pw_below_drewN | apply below_drew1 | refine below_set ?_ GE50004.out) | exact HB.out)) hb); have n4_ := Aside0.mk (hbox); have n5_ := Aside0.mk ((by rw [hg]; exact (below_size (by repeat (first | (with_reducible first | exact HB.out | apply below_alloc | apply pw_below_drewN | apply below_drew1 | refine below_set ?_ GE50004.out) | exact HB.out))) : w.heap.size ≤ gb50015)); have n6_ := Aside0.mk ((by rw [hg]; exact (below_size (by repeat (first | (with_reducible first | exact HB.out | apply below_alloc | apply pw_below_drewN | apply below_drew1 | refine below_set ?_ GE50004.out) | exact HB.out))) : w.heap.size ≤ gb50015)); have n7_ := Aside0.mk ((by rw [hg]; exact Nat.ne_of_lt (blk_lt (g := gb50004) (o := .cells #[.string t50002, .int .i64 t50003] 23 (0, 0)) (by (with_reducible repeat (first | refine blk_drewN ?_ _ | refine blk_drew ?_ | refine blk_alloc ?_ _)); exact BK50004.out)) : gb50004 ≠ gb50015)); have n8_ := Aside0.mk ((by rw [hg]; exact Nat.ne_of_gt (blk_lt (g := gb50004) (o := .cells #[.string t50002, .int .i64 t50003] 23 (0, 0)) (by (with_reducible repeat (first | refine blk_drewN ?_ _ | refine blk_drew ?_ | refine blk_alloc ?_ _)); exact BK50004.out)) : gb50015 ≠ gb50004)); clear HO_10; clear HO50011; clear BK50004; clear HB; have HO_10 := n0_; have HO50011 := n1_; have BK50004 := n2_; have HB := n3_; have BK50015 := n4_; have GW50015 := n5_; have GE50015 := n6_; have NB50004_50015 := n7_; have NB50015_50004 := n8_; clear n0_ n1_ n2_ n3_ n4_ n5_ n6_ n7_ n8_; clear hb hbox hg; have hnb37 := NB50015_50004.out; have hnc37 := NB50004_50015.out; have hcz38_0 : w36.cell? ⟨gb50015, 0, none⟩ = some (.string (⟨#[]⟩ : ByteArray)) := (blk_cell BK50015.out 0).trans rfl; have hcz38_1 : w36.cell? ⟨gb50015, 1, none⟩ = some (.int .i64 0) := (blk_cell BK50015.out 1).trans rfl; have hfz38_0 := blk_frozen BK50015.out 0; have hfz38_1 := blk_frozen BK50015.out 1; have hcz39_0 : w36.cell? ⟨gb50004, 0, none⟩ = some (.string t50002) := (blk_cell BK50004.out 0).trans rfl; have hcz39_1 : w36.cell? ⟨gb50004, 1, none⟩ = some (.int .i64 t50003) := (blk_cell BK50004.out 1).trans rfl; have hfz39_0 := blk_frozen BK50004.out 0; have hfz39_1 := blk_frozen BK50004.out 1) | ((with_reducible refine gate_callee (f := 18) rfl ?_); refine goesL_ (some 40) rfl rfl Try.func18 (by kernel_rfl) rfl #[.agg #[.string t50002, .int .i64 t50003]] rfl (by (try simp only [List.map_toArray, List.map_cons, List.map_nil]); first | done | rfl | (simp only [List.length_drop, List.length_take]; rfl)) ?_; (with_reducible refine (tape_Left.calls t50002 t50003 t50016 _ A15.out).mono ?_); rintro e w40 ⟨rfl, hb⟩; refine ⟨_, rfl, ?_⟩; have n0_ := Aside0.mk (Kd.R_below (by (with_reducible repeat (first | apply Kd.R_alloc | apply Kd.R_drewN | apply Kd.R_drew)); exact (Kd.R_mono (Kd.R_far (p := ⟨gb50015, 1, none⟩) (Kd.R_far (p := ⟨gb50015, 0, none⟩) (Kd.R_types HO_10.out BK50015.out (by decide)) (fun _ hk => hk.2) (.string t50012)) (fun _ hk => hk.2) (.int .i64 t50013)) (fun _ h_ => h_.1))) hb); have n1_ := Aside0.mk (Kd.R_below (by (with_reducible repeat (first | apply Kd.R_alloc | apply Kd.R_drewN | apply Kd.R_drew)); exact (Kd.R_mono (Kd.R_far (p := ⟨gb50015, 1, none⟩) (Kd.R_far (p := ⟨gb50015, 0, none⟩) (Kd.R_types HO50011.out BK50015.out (by decide)) (fun _ hk => hk.2) (.string t50012)) (fun _ hk => hk.2) (.int .i64 t50013)) (fun _ h_ => h_.1))) hb); have n2_ := Aside0.mk (blk_below (g := gb50004) (o := .cells #[.string t50002, .int .i64 t50003] 23 (0, 0)) (by (with_reducible repeat (first | refine blk_drewN ?_ _ | refine blk_drew ?_ | refine blk_alloc ?_ _)); refine blk_far ?_ NB50004_50015.out _; (with_reducible repeat (first | refine blk_drewN ?_ _ | refine blk_drew ?_ | refine blk_alloc ?_ _)); refine blk_far ?_ NB50004_50015.out _; (with_reducible repeat (first | refine blk_drewN ?_ _ | refine blk_drew ?_ | refine blk_alloc ?_ _)); exact BK50004.out) hb); have n3_ := Aside0.mk (blk_below (g := gb50015) (o := .cells #[.string t50012, .int .i64 t50013] 23 (0, 0)) (by (with_reducible repeat (first | refine blk_drewN ?_ _ | refine blk_drew ?_ | refine blk_alloc ?_ _)); refine blk_put (cs := #[.string t50012, .int .i64 0]) ?_ 1 _ rfl; (with_reducible repeat (first | refine blk_drewN ?_ _ | refine blk_drew ?_ | refine blk_alloc ?_ _)); refine blk_put (cs := #[.string (⟨#[]⟩ : ByteArray), .int .i64 0]) ?_ 0 _ rfl; (with_reducible repeat (first | refine blk_drewN ?_ _ | refine blk_drew ?_ | refine blk_alloc ?_ _)); exact BK50015.out) hb); have n4_ := Aside0.mk (below_step (by repeat (first | (with_reducible first | exact HB.out | apply below_alloc | apply pw_below_drewN | apply below_drew1 | refine below_set ?_ GE50004.out | refine below_set ?_ GE50015.out) | exact HB.out)) hb); clear HO_10; clear HO50011; clear BK50004; clear BK50015; clear HB; have HO_10 := n0_; have HO50011 := n1_; have BK50004 := n2_; have BK50015 := n3_; have HB := n4_; clear n0_ n1_ n2_ n3_ n4_; (try clear hb); (try clear hb2); (try clear hk); (try clear hi)))
          (try simp only [Act.put, List.setIfInBounds_toArray, List.set_cons_zero, List.set_cons_succ])
          go_cut [80] (fun v80 wc => ∃ (kq : Nat) (x80_31 : Bool), v80 = .bool x80_31 ∧ Aside0 (columbariumlaw07_TapeTurns.j1 kq t50001 t50005 t50009 x80_31 = some r) ∧ Aside0 (kq ≤ k1) ∧ Aside0 (Kd.R (Kd.int .i64) 3 wc w.heap.size (fun _ => True) v50010 t50009) ∧ Aside0 (wc.heap[gb50004]? = some (.cells #[.string t50002, .int .i64 t50003] 23 (0, 0))) ∧ Aside0 (wc.heap[gb50015]? = some (.cells #[.string t50012, .int .i64 t50013] 23 (0, 0))) ∧ Aside0 (Below w.heap.size w wc))
          case first =>
            have H := HC32.out
            clear HC32
            by_cases c41 : t50014 = 0
            · rw [if_pos c41] at H
              have c41b0 : (t50014 == 0) = true := beq_iff_eq.mpr c41
              have c41b1 : (t50014 != 0) = false := bne_eq_false_iff_eq.mpr c41
              clear c41
              (first | rw [c41b0] | rw [c41b1] | (simp only [i64_w, i32_w]; rw [c41b0]) | skip)
              by_cases c42 : (t50009.length : Int) = t50005
              · rw [if_pos c42] at H
                have c42b0 : ((t50009.length : Int) == t50005) = true := beq_iff_eq.mpr c42
                have c42b1 : ((t50009.length : Int) != t50005) = false := bne_eq_false_iff_eq.mpr c42
                clear c42
                have H' := Aside0.mk H
                clear H
                obtain ⟨Ao43, co43, eo43⟩ := Kd.R_slice HO50011.out
                subst eo43
                have hnb44 := NB50015_50004.out
                have hnc44 := NB50004_50015.out
                have hcz45_0 : w40.cell? ⟨gb50015, 0, none⟩ = some (.string t50012) := (blk_cell BK50015.out 0).trans rfl
                have hcz45_1 : w40.cell? ⟨gb50015, 1, none⟩ = some (.int .i64 t50013) := (blk_cell BK50015.out 1).trans rfl
                have hfz45_0 := blk_frozen BK50015.out 0
                have hfz45_1 := blk_frozen BK50015.out 1
                have hcz46_0 : w40.cell? ⟨gb50004, 0, none⟩ = some (.string t50002) := (blk_cell BK50004.out 0).trans rfl
                have hcz46_1 : w40.cell? ⟨gb50004, 1, none⟩ = some (.int .i64 t50003) := (blk_cell BK50004.out 1).trans rfl
                have hfz46_0 := blk_frozen BK50004.out 0
                have hfz46_1 := blk_frozen BK50004.out 1
                go_wp2
                go_meet
                case rel => exact ⟨_, ((t50013 != (wrap64 (t50003 + (wrap64 (2 * (ji16))))))), (by first | rfl | (simp; done) | (simp only [← hji16] <;> (first | rfl | simp)) | (simp [*]; done)), H', ⟨by have := HK1.out; first | omega | exact Nat.le_refl _⟩, ⟨by (with_reducible repeat (first | apply Kd.R_alloc | apply Kd.R_drewN | apply Kd.R_drew)); exact Kd.R_mono HO50011.out (fun _ hk => trivial)⟩, ⟨by (with_reducible repeat (first | refine blk_drewN ?_ _ | refine blk_drew ?_ | refine blk_alloc ?_ _)); exact BK50004.out⟩, ⟨by (with_reducible repeat (first | refine blk_drewN ?_ _ | refine blk_drew ?_ | refine blk_alloc ?_ _)); exact BK50015.out⟩, ⟨by repeat (first | (with_reducible first | exact HB.out | apply below_alloc | apply pw_below_drewN | apply below_drew1 | refine below_set ?_ GE50004.out | refine below_set ?_ GE50015.out) | exact HB.out)⟩⟩
              · rw [if_neg c42] at H
                have c42b0 : ((t50009.length : Int) == t50005) = false := beq_eq_false_iff_ne.mpr c42
                have c42b1 : ((t50009.length : Int) != t50005) = true := bne_iff_ne.mpr c42
                have H' := Aside0.mk H
                clear H
                obtain ⟨Ao47, co47, eo47⟩ := Kd.R_slice HO50011.out
                subst eo47
                go_wp2
                go_meet
                case rel => exact ⟨_, (true), (by first | rfl | (simp; done) | (simp [*]; done)), H', ⟨by have := HK1.out; first | omega | exact Nat.le_refl _⟩, ⟨by (with_reducible repeat (first | apply Kd.R_alloc | apply Kd.R_drewN | apply Kd.R_drew)); exact Kd.R_mono HO50011.out (fun _ hk => trivial)⟩, ⟨by (with_reducible repeat (first | refine blk_drewN ?_ _ | refine blk_drew ?_ | refine blk_alloc ?_ _)); exact BK50004.out⟩, ⟨by (with_reducible repeat (first | refine blk_drewN ?_ _ | refine blk_drew ?_ | refine blk_alloc ?_ _)); exact BK50015.out⟩, ⟨by repeat (first | (with_reducible first | exact HB.out | apply below_alloc | apply pw_below_drewN | apply below_drew1 | refine below_set ?_ GE50004.out | refine below_set ?_ GE50015.out) | exact HB.out)⟩⟩
            · rw [if_neg c41] at H
              have c41b0 : (t50014 == 0) = false := beq_eq_false_iff_ne.mpr c41
              have c41b1 : (t50014 != 0) = true := bne_iff_ne.mpr c41
              (first | rw [c41b0] | rw [c41b1] | (simp only [i64_w, i32_w]; rw [c41b0]) | skip)
              have H' := Aside0.mk H
              clear H
              go_wp2
              go_meet
              case rel => exact ⟨_, (true), (by first | rfl | (simp; done) | (simp [*]; done)), H', ⟨by have := HK1.out; first | omega | exact Nat.le_refl _⟩, ⟨by (with_reducible repeat (first | apply Kd.R_alloc | apply Kd.R_drewN | apply Kd.R_drew)); exact Kd.R_mono HO50011.out (fun _ hk => trivial)⟩, ⟨by (with_reducible repeat (first | refine blk_drewN ?_ _ | refine blk_drew ?_ | refine blk_alloc ?_ _)); exact BK50004.out⟩, ⟨by (with_reducible repeat (first | refine blk_drewN ?_ _ | refine blk_drew ?_ | refine blk_alloc ?_ _)); exact BK50015.out⟩, ⟨by repeat (first | (with_reducible first | exact HB.out | apply below_alloc | apply pw_below_drewN | apply below_drew1 | refine below_set ?_ GE50004.out | refine below_set ?_ GE50015.out) | exact HB.out)⟩⟩
          case rest =>
            clear HC32
            try clear c1
            try clear c2
            try clear p2
            try clear c3
            try clear c4
            try clear c5
            try clear p6
            try clear c11
            try clear c11b0
            try clear c12
            try clear c14
            try clear c15
            try clear c17
            try clear c17b0
            try clear c18
            try clear c19
            try clear c19b0
            try clear c19b1
            try clear c20
            try clear c20b0
            try clear c20b1
            try clear c25
            try clear c37
            try clear c41
            try clear c41b0
            try clear c41b1
            try clear c42
            try clear c42b0
            try clear c42b1
            try clear c44
            try clear hcz10_0
            try clear hcz10_1
            try clear hcz21_0
            try clear hcz21_1
            try clear hcz26_0
            try clear hcz26_1
            try clear hcz27_0
            try clear hcz27_1
            try clear hcz30_0
            try clear hcz30_1
            try clear hcz31_0
            try clear hcz31_1
            try clear hcz33_0
            try clear hcz33_1
            try clear hcz38_0
            try clear hcz38_1
            try clear hcz39_0
            try clear hcz39_1
            try clear hcz45_0
            try clear hcz45_1
            try clear hcz46_0
            try clear hcz46_1
            try clear hfz10_0
            try clear hfz10_1
            try clear hfz21_0
            try clear hfz21_1
            try clear hfz26_0
            try clear hfz26_1
            try clear hfz27_0
            try clear hfz27_1
            try clear hfz30_0
            try clear hfz30_1
            try clear hfz31_0
            try clear hfz31_1
            try clear hfz33_0
            try clear hfz33_1
            try clear hfz38_0
            try clear hfz38_1
            try clear hfz39_0
            try clear hfz39_1
            try clear hfz45_0
            try clear hfz45_1
            try clear hfz46_0
            try clear hfz46_1
            try clear p2
            obtain ⟨kq, x80_31, rfl, HA, HJ31, HO_12, BK50004, BK50015, HB⟩ := hcut
            cases kq with
            | zero => exact absurd HA.out (by simp [columbariumlaw07_TapeTurns.j1])
            | succ kj31 =>
              have H := HA.out
              clear HA
              simp only [columbariumlaw07_TapeTurns.j1] at H
              by_cases c48 : x80_31 = true
              · subst c48
                have H1 : (none) = some r := by rw [if_pos rfl] at H; exact H
                clear H
                have H := H1
                clear H1
                exact absurd H (by simp)
              · replace c48 := Bool.eq_false_iff.mpr c48
                subst c48
                have H1 : (if 0 ≤ t50005 then (if (t50005 : Int).toNat ≤ 281474976710656 then (columbariumlaw07_TapeTurns.l1 kj31 t50001 t50005 t50009 (List.replicate (t50005 : Int).toNat false) 0) else (none)) else (none)) = some r := by rw [if_neg (show ¬ (false = true) by decide)] at H; exact H
                clear H
                have H := H1
                clear H1
                by_cases c49 : 0 ≤ t50005
                · rw [if_pos c49] at H
                  have c49b0 := eq_true c49
                  have c49b1 : decide (0 ≤ t50005) = true := decide_eq_true c49
                  clear c49
                  by_cases c50 : (t50005 : Int).toNat ≤ 281474976710656
                  · rw [if_pos c50] at H
                    have c50b0 := eq_true c50
                    have c50b1 : decide ((t50005 : Int).toNat ≤ 281474976710656) = true := decide_eq_true c50
                    clear c50
                    obtain ⟨y50017, hy50017⟩ : ∃ y_ : List Bool, y_ = (List.replicate (t50005 : Int).toNat false) := ⟨_, rfl⟩
                    replace H : (columbariumlaw07_TapeTurns.l1 kj31 t50001 t50005 t50009 y50017 0) = some r := by first | (rw [hy50017]; with_reducible exact H) | (have H2_ := (Option.bind_some _ _).symm.trans H; rw [hy50017]; with_reducible exact H2_) | (have H2_ := (Option.bind_some _ _).symm.trans H; with_reducible exact H2_) | with_reducible exact H | (rw [hy50017]; exact H) | exact H
                    have Ny50017 := Aside0.mk hy50017
                    clear hy50017
                    have H' := Aside0.mk H
                    clear H
                    go_wp2_with (first | ((with_reducible refine gate_dst (N := 82) rfl ?_); (try (refine gate_guard (by rfl) ?_; dsimp only)); refine Kd.R_make Kd.bool _ 4 rfl (N := 82) rfl 42 _ _ rfl t50005 rfl rfl Try.underlying42 (.bool false) 1 info4 rfl (by decide) (by omega) false (ok := fun _ => True) (okp := fun _ => True) rfl (fun _ hk => hk) trivial (of_decide_eq_true (by first | (with_reducible assumption) | assumption)) (Nat.le_trans (Nat.mul_le_mul_right _ (of_decide_eq_true (by first | (with_reducible assumption) | assumption) : t50005.toNat ≤ 281474976710656)) (by omega)) (Below.refl _ _) (Nat.le_refl _) ?_; intro v50018 w51 ho52 hb hg_ hnew_; clear hg_ hnew_; (first | rw [← Ny50017.out] at ho52 | (simp only [Int.reduceToNat] at ho52; rw [← Ny50017.out] at ho52)); have n0_ := Aside0.mk (Kd.R_below (by (with_reducible repeat (first | apply Kd.R_alloc | apply Kd.R_drewN | apply Kd.R_drew)); exact HO_12.out) hb); have n1_ := Aside0.mk (Kd.R_lower ho52 (below_size (by repeat (first | (with_reducible first | exact HB.out | apply below_alloc | apply pw_below_drewN | apply below_drew1 | refine below_set ?_ GE50004.out | refine below_set ?_ GE50015.out) | exact HB.out)))); have n2_ := Aside0.mk (blk_below (g := gb50004) (o := .cells #[.string t50002, .int .i64 t50003] 23 (0, 0)) (by (with_reducible repeat (first | refine blk_drewN ?_ _ | refine blk_drew ?_ | refine blk_alloc ?_ _)); exact BK50004.out) hb); have n3_ := Aside0.mk (blk_below (g := gb50015) (o := .cells #[.string t50012, .int .i64 t50013] 23 (0, 0)) (by (with_reducible repeat (first | refine blk_drewN ?_ _ | refine blk_drew ?_ | refine blk_alloc ?_ _)); exact BK50015.out) hb); have n4_ := Aside0.mk (below_step (by repeat (first | (with_reducible first | exact HB.out | apply below_alloc | apply pw_below_drewN | apply below_drew1 | refine below_set ?_ GE50004.out | refine below_set ?_ GE50015.out) | exact HB.out)) hb); clear HO_12; clear BK50004; clear BK50015; clear HB; have HO_12 := n0_; have HO50019 := n1_; have BK50004 := n2_; have BK50015 := n3_; have HB := n4_; clear n0_ n1_ n2_ n3_ n4_; clear hb ho52))
                    go_loopg [16] kj31 (fun kq v16 w' => ∃ (x15_3 : List Bool) (x16_3 : Int), v16 = .int .i64 x16_3 ∧ Aside0 (columbariumlaw07_TapeTurns.l1 kq t50001 t50005 t50009 x15_3 x16_3 = some r) ∧ Aside0 (kq ≤ kj31) ∧ Aside0 (Kd.R (Kd.int .i64) 3 w' w.heap.size (fun _ => True) v50010 t50009) ∧ Aside0 (Kd.R Kd.bool 4 w' w.heap.size (fun _ => True) v50018 x15_3) ∧ Aside0 (w'.heap[gb50004]? = some (.cells #[.string t50002, .int .i64 t50003] 23 (0, 0))) ∧ Aside0 (w'.heap[gb50015]? = some (.cells #[.string t50012, .int .i64 t50013] 23 (0, 0))) ∧ Aside0 (Below w.heap.size w w'))
                    case atStart => exact ⟨(y50017), (0), (by first | rfl | (simp; done) | (simp [*]; done)), H', ⟨Nat.le_refl _⟩, ⟨by (with_reducible repeat (first | apply Kd.R_alloc | apply Kd.R_drewN | apply Kd.R_drew)); exact HO_12.out⟩, ⟨by (with_reducible repeat (first | apply Kd.R_alloc | apply Kd.R_drewN | apply Kd.R_drew)); exact HO50019.out⟩, ⟨by (with_reducible repeat (first | refine blk_drewN ?_ _ | refine blk_drew ?_ | refine blk_alloc ?_ _)); exact BK50004.out⟩, ⟨by (with_reducible repeat (first | refine blk_drewN ?_ _ | refine blk_drew ?_ | refine blk_alloc ?_ _)); exact BK50015.out⟩, ⟨by repeat (first | (with_reducible first | exact HB.out | apply below_alloc | apply pw_below_drewN | apply below_drew1 | refine below_set ?_ GE50004.out | refine below_set ?_ GE50015.out) | exact HB.out)⟩⟩
                    case round =>
                      clear H'
                      try clear c1
                      try clear c2
                      try clear p2
                      try clear c3
                      try clear c4
                      try clear c5
                      try clear p6
                      try clear c11
                      try clear c11b0
                      try clear c12
                      try clear c14
                      try clear c15
                      try clear c17
                      try clear c17b0
                      try clear c18
                      try clear c19
                      try clear c19b0
                      try clear c19b1
                      try clear c20
                      try clear c20b0
                      try clear c20b1
                      try clear c25
                      try clear c37
                      try clear c41
                      try clear c41b0
                      try clear c41b1
                      try clear c42
                      try clear c42b0
                      try clear c42b1
                      try clear c44
                      try clear c48
                      try clear c49
                      try clear c49b0
                      try clear c49b1
                      try clear c50
                      try clear c50b0
                      try clear c50b1
                      try clear hcz10_0
                      try clear hcz10_1
                      try clear hcz21_0
                      try clear hcz21_1
                      try clear hcz26_0
                      try clear hcz26_1
                      try clear hcz27_0
                      try clear hcz27_1
                      try clear hcz30_0
                      try clear hcz30_1
                      try clear hcz31_0
                      try clear hcz31_1
                      try clear hcz33_0
                      try clear hcz33_1
                      try clear hcz38_0
                      try clear hcz38_1
                      try clear hcz39_0
                      try clear hcz39_1
                      try clear hcz45_0
                      try clear hcz45_1
                      try clear hcz46_0
                      try clear hcz46_1
                      try clear hfz10_0
                      try clear hfz10_1
                      try clear hfz21_0
                      try clear hfz21_1
                      try clear hfz26_0
                      try clear hfz26_1
                      try clear hfz27_0
                      try clear hfz27_1
                      try clear hfz30_0
                      try clear hfz30_1
                      try clear hfz31_0
                      try clear hfz31_1
                      try clear hfz33_0
                      try clear hfz33_1
                      try clear hfz38_0
                      try clear hfz38_1
                      try clear hfz39_0
                      try clear hfz39_1
                      try clear hfz45_0
                      try clear hfz45_1
                      try clear hfz46_0
                      try clear hfz46_1
                      try clear p2
                      try clear p6
                      obtain ⟨x15_3, x16_3, rfl, HA, HK3, HO_12, HO_15, BK50004, BK50015, HB⟩ := hrel
                      cases gk with
                      | zero => exact absurd HA.out (by simp [columbariumlaw07_TapeTurns.l1])
                      | succ k3 =>
                        have H := HA.out
                        clear HA
                        simp only [columbariumlaw07_TapeTurns.l1] at H
                        by_cases c53 : x16_3 < t50005
                        · rw [if_pos c53] at H
                          have c53b0 : decide (x16_3 < t50005) = true := decide_eq_true c53
                          clear c53
                          by_cases c54 : 0 ≤ x16_3
                          · rw [if_pos c54] at H
                            have c54b0 : decide (0 ≤ x16_3) = true := decide_eq_true c54
                            clear c54
                            by_cases c55 : x16_3 < (t50009.length : Int)
                            · rw [if_pos c55] at H
                              have c55b0 : decide (x16_3 < (t50009.length : Int)) = true := decide_eq_true c55
                              clear c55
                              by_cases c56 : (rd t50009 x16_3) < 0
                              · rw [if_pos c56] at H
                                exact absurd H (by simp)
                              · rw [if_neg c56] at H
                                have c56b0 : decide ((rd t50009 x16_3) < 0) = false := decide_eq_false c56
                                clear c56
                                by_cases c57 : (rd t50009 x16_3) ≥ t50005
                                · rw [if_pos c57] at H
                                  exact absurd H (by simp)
                                · rw [if_neg c57] at H
                                  have c57b0 : decide (t50005 ≤ (rd t50009 x16_3)) = false := decide_eq_false c57
                                  clear c57
                                  by_cases c58 : 0 ≤ (rd t50009 x16_3)
                                  · rw [if_pos c58] at H
                                    have c58b0 : decide (0 ≤ (rd t50009 x16_3)) = true := decide_eq_true c58
                                    clear c58
                                    by_cases c59 : (rd t50009 x16_3) < (x15_3.length : Int)
                                    · rw [if_pos c59] at H
                                      have c59b0 : decide ((rd t50009 x16_3) < (x15_3.length : Int)) = true := decide_eq_true c59
                                      clear c59
                                      obtain ⟨bq60, hbq60⟩ : ∃ b_ : Bool, b_ = (rdOf false x15_3 (rd t50009 x16_3)) := ⟨_, rfl⟩
                                      replace H : (if bq60 = true then (none) else (columbariumlaw07_TapeTurns.l1 k3 t50001 t50005 t50009 (x15_3.set ((rd t50009 x16_3) : Int).toNat true) (wrap64 (x16_3 + 1)))) = some r := by rw [← hbq60] at H; exact H
                                      have Nbq60 := Aside0.mk hbq60
                                      clear hbq60
                                      by_cases c61 : bq60 = true
                                      · subst c61
                                        have H1 : (none) = some r := by rw [if_pos rfl] at H; exact H
                                        clear H
                                        have H := H1
                                        clear H1
                                        exact absurd H (by simp)
                                      · replace c61 := Bool.eq_false_iff.mpr c61
                                        subst c61
                                        have H1 : (columbariumlaw07_TapeTurns.l1 k3 t50001 t50005 t50009 (x15_3.set ((rd t50009 x16_3) : Int).toNat true) (wrap64 (x16_3 + 1))) = some r := by rw [if_neg (show ¬ (false = true) by decide)] at H; exact H
                                        clear H
                                        have H := H1
                                        clear H1
                                        obtain ⟨y50025, hy50025⟩ : ∃ y_ : List Bool, y_ = (x15_3.set ((rd t50009 x16_3) : Int).toNat true) := ⟨_, rfl⟩
                                        replace H : (columbariumlaw07_TapeTurns.l1 k3 t50001 t50005 t50009 y50025 (wrap64 (x16_3 + 1))) = some r := by first | (rw [hy50025]; with_reducible exact H) | (have H2_ := (Option.bind_some _ _).symm.trans H; rw [hy50025]; with_reducible exact H2_) | (have H2_ := (Option.bind_some _ _).symm.trans H; with_reducible exact H2_) | with_reducible exact H | (rw [hy50025]; exact H) | exact H
                                        have Ny50025 := Aside0.mk hy50025
                                        clear hy50025
                                        have H' := Aside0.mk H
                                        clear H
                                        obtain ⟨Ao63, co63, eo63⟩ := Kd.R_slice HO_12.out
                                        subst eo63
                                        have p50020 : 0 ≤ (x16_3 : Int) := of_decide_eq_true (by first | (with_reducible assumption) | assumption)
                                        have q50020 : x16_3 < (t50009.length : Int) := of_decide_eq_true (by first | (with_reducible assumption) | assumption)
                                        obtain ⟨ad50020, e50020, hx50020_0⟩ := Kd.at_int (Kd.R_reads' HO_12.out).2.2 x16_3 p50020 q50020
                                        cases e50020
                                        replace p50020 := eq_true p50020
                                        replace q50020 := eq_true q50020
                                        have p50021 : 0 ≤ (x16_3 : Int) := of_decide_eq_true (by first | (with_reducible assumption) | assumption)
                                        have q50021 : x16_3 < (t50009.length : Int) := of_decide_eq_true (by first | (with_reducible assumption) | assumption)
                                        obtain ⟨ad50021, e50021, hx50021_0⟩ := Kd.at_int (Kd.R_reads' HO_12.out).2.2 x16_3 p50021 q50021
                                        obtain rfl : ad50020 = ad50021 := (by injection e50021)
                                        replace p50021 := eq_true p50021
                                        replace q50021 := eq_true q50021
                                        have p50022 : 0 ≤ (x16_3 : Int) := of_decide_eq_true (by first | (with_reducible assumption) | assumption)
                                        have q50022 : x16_3 < (t50009.length : Int) := of_decide_eq_true (by first | (with_reducible assumption) | assumption)
                                        obtain ⟨ad50022, e50022, hx50022_0⟩ := Kd.at_int (Kd.R_reads' HO_12.out).2.2 x16_3 p50022 q50022
                                        obtain rfl : ad50020 = ad50022 := (by injection e50022)
                                        replace p50022 := eq_true p50022
                                        replace q50022 := eq_true q50022
                                        obtain ⟨Ao64, co64, eo64⟩ := Kd.R_slice HO_15.out
                                        subst eo64
                                        have p50023 : 0 ≤ ((rd t50009 x16_3) : Int) := of_decide_eq_true (by first | (with_reducible assumption) | assumption)
                                        have q50023 : (rd t50009 x16_3) < (x15_3.length : Int) := of_decide_eq_true (by first | (with_reducible assumption) | assumption)
                                        obtain ⟨ad50023, e50023, hx50023_0⟩ := Kd.at_bool (Kd.R_reads' HO_15.out).2.2 (rd t50009 x16_3) p50023 q50023
                                        (try rw [← Nbq60.out] at hx50023_0)
                                        cases e50023
                                        replace p50023 := eq_true p50023
                                        replace q50023 := eq_true q50023
                                        have p50024 : 0 ≤ (x16_3 : Int) := of_decide_eq_true (by first | (with_reducible assumption) | assumption)
                                        have q50024 : x16_3 < (t50009.length : Int) := of_decide_eq_true (by first | (with_reducible assumption) | assumption)
                                        obtain ⟨ad50024, e50024, hx50024_0⟩ := Kd.at_int (Kd.R_reads' HO_12.out).2.2 x16_3 p50024 q50024
                                        obtain rfl : ad50020 = ad50024 := (by injection e50024)
                                        replace p50024 := eq_true p50024
                                        replace q50024 := eq_true q50024
                                        have p62 : 0 ≤ ((rd t50009 x16_3) : Int) := of_decide_eq_true (by first | (with_reducible assumption) | assumption)
                                        have q62 : ((rd t50009 x16_3) : Int) < ((x15_3.length : Int) : Int) := of_decide_eq_true (by first | (with_reducible assumption) | assumption)
                                        obtain ⟨go62, co62, eo62, gb62, gl62, cl62, HG62⟩ := Kd.R_form HO_15.out (by omega)
                                        (first | cases eo62 | (injection eo62 with ea_ en_ ec_; (first | subst ea_ | (injection ea_ with ea_; subst ea_)); subst ec_; clear en_))
                                        have GB62 := Aside0.mk gb62
                                        have GG62 := Aside0.mk HG62
                                        clear gb62 gl62 HG62
                                        (first | simp only [add_plain] at hx50023_0 | skip)
                                        obtain ⟨hx62_0, hf62_0⟩ := Kd.R_celln false HO_15.out ((rd t50009 x16_3) : Int) p62 q62
                                        replace p62 := eq_true p62
                                        replace q62 := eq_true q62
                                        have HP65 := Kd.R_putg HO_15.out ((rd t50009 x16_3) : Int) true
                                        go_wp2_with (first | ((with_reducible refine gate_store (t := 4) (p := 115) rfl ?_); refine store_event (t := 4) (p := 115) (v := ?vo_w66) (w1 := (wr.setCell ⟨go62, ((rd t50009 x16_3) : Int).toNat, none⟩ (.bool true))) ?hg ?ho ?hn ?hr ?_; (case ho => rfl); (case hg => rfl); (case hn => rfl); (case hr => first | (go_simp; done) | (go_simp; rfl)); intro w66 hw; have hg : wr.grownBy w66 (some go62) := (by rw [hw]; exact HP65.2); have hp_ : Kd.R Kd.bool 4 w66 w.heap.size (fun _ => True) (.slice (some ⟨go62, 0, none⟩) x15_3.length co64) y50025 := (by rw [hw, Ny50025.out]; exact HP65.1); clear HP65; have n0_ := Aside0.mk (Kd.R_over' (v := (.slice (some ⟨go62, 0, none⟩) x15_3.length co64)) (by (with_reducible repeat (first | apply Kd.R_alloc | apply Kd.R_drewN | apply Kd.R_drew)); exact HO_12.out) (Kd.R_typed HO_15.out) (by decide) hg); have n1_ := Aside0.mk (hp_); have n2_ := Aside0.mk (blk_grown (g := gb50004) (o := .cells #[.string t50002, .int .i64 t50003] 23 (0, 0)) (by (with_reducible repeat (first | refine blk_drewN ?_ _ | refine blk_drew ?_ | refine blk_alloc ?_ _)); exact BK50004.out) hg (Kd.R_ne HO_15.out BK50004.out (by decide))); have n3_ := Aside0.mk (blk_grown (g := gb50015) (o := .cells #[.string t50012, .int .i64 t50013] 23 (0, 0)) (by (with_reducible repeat (first | refine blk_drewN ?_ _ | refine blk_drew ?_ | refine blk_alloc ?_ _)); exact BK50015.out) hg (Kd.R_ne HO_15.out BK50015.out (by decide))); have n4_ := Aside0.mk ((by rw [hw]; exact below_set (HB.out) GB62.out : Below w.heap.size w w66)); clear HO_12; clear HO_15; clear BK50004; clear BK50015; clear HB; have HO_12 := n0_; have HO_15 := n1_; have BK50004 := n2_; have BK50015 := n3_; have HB := n4_; clear n0_ n1_ n2_ n3_ n4_; clear hg hw hp_))
                                        go_roundg k3
                                        case measure => have := HK1.out; have := HJ31.out; have := HK3.out; omega
                                        case rel => exact ⟨(y50025), (wrap64 (x16_3 + 1)), (by first | rfl | (simp; done) | (simp [*]; done)), H', ⟨by have := HK1.out; have := HJ31.out; have := HK3.out; omega⟩, ⟨by (with_reducible repeat (first | apply Kd.R_alloc | apply Kd.R_drewN | apply Kd.R_drew)); exact HO_12.out⟩, ⟨by (with_reducible repeat (first | apply Kd.R_alloc | apply Kd.R_drewN | apply Kd.R_drew)); exact HO_15.out⟩, ⟨by (with_reducible repeat (first | refine blk_drewN ?_ _ | refine blk_drew ?_ | refine blk_alloc ?_ _)); exact BK50004.out⟩, ⟨by (with_reducible repeat (first | refine blk_drewN ?_ _ | refine blk_drew ?_ | refine blk_alloc ?_ _)); exact BK50015.out⟩, ⟨by repeat (first | (with_reducible first | exact HB.out | apply below_alloc | apply pw_below_drewN | apply below_drew1 | refine below_set ?_ GE50004.out | refine below_set ?_ GE50015.out) | exact HB.out)⟩⟩
                                    · rw [if_neg c59] at H
                                      exact absurd H (by simp)
                                  · rw [if_neg c58] at H
                                    exact absurd H (by simp)
                            · rw [if_neg c55] at H
                              exact absurd H (by simp)
                          · rw [if_neg c54] at H
                            exact absurd H (by simp)
                        · rw [if_neg c53] at H
                          have c53b0 : decide (x16_3 < t50005) = false := decide_eq_false c53
                          clear c53
                          obtain rfl := Option.some.inj H
                          go_wp2
                          go_ret
                          exact ⟨by first | rfl | (simp [errW_none, errW_some] <;> rfl) | (simp only [← hji16]; first | rfl | (simp [errW_none, errW_some] <;> rfl)) | (simp [*, errW_none, errW_some] <;> rfl), by repeat (first | (with_reducible first | exact HB.out | apply below_alloc | apply pw_below_drewN | apply below_drew1 | refine below_set ?_ GE50004.out | refine below_set ?_ GE50015.out) | exact HB.out)⟩
                  · rw [if_neg c50] at H
                    exact absurd H (by simp)
                · rw [if_neg c49] at H
                  exact absurd H (by simp)

/-- THE ONE PURE STATEMENT of columbariumlaw07_TapeTurns: yours. -/
def columbariumlaw07_TapeTurns.Pure : Prop := ∀ (a0 : ByteArray) (a1 : Int) (a2 : Int), a0.size ≤ 140737488351232 → (Lit.int .i64 a1).wf = true → (Lit.int .i64 a2).wf = true → ∃ k, columbariumlaw07_TapeTurns.f k a0 a1 a2 = some true
theorem columbariumlaw07_TapeTurns.walk (P : columbariumlaw07_TapeTurns.Pure) (a0 : ByteArray) (a1 : Int) (a2 : Int) (w : World) (w0 : a0.size ≤ 140737488351232) (w1 : (Lit.int .i64 a1).wf = true) (w2 : (Lit.int .i64 a2).wf = true) :
    Calls Try.prog 5 #[.string a0, .int .i64 a1, .int .i64 a2] w fun e w' => e = .returned (.bool true) ∧ Below w.heap.size w w' := by
  obtain ⟨k, h⟩ := P a0 a1 a2 w0 w1 w2
  refine (columbariumlaw07_TapeTurns.calls k a0 a1 a2 true w h).mono ?_
  rintro e w' ⟨rfl, hd⟩
  exact ⟨rfl, hd⟩

end Go.Proofs.Ytmkncddbecmlpaa.Pr
