/-
  The reference's Compress: what a block makes of eight words. No condition but the ones that each lemma names.
-/
import Derived.Test.YtajaobebcmlhaaaDoorRefSched
namespace Go.Proofs.YtajaobebcmlhaaaDoor.Pr
open Go.RowKit Go.Shelf Go.Proofs.YtajaobebcmlhaaaDoor.XB Go.Proofs.Sha Go.Proofs.YtajaobebcmlhaaaDoorW.PrintWords
set_option linter.unusedVariables false
set_option maxRecDepth 100000 in
theorem refcompress_err (h : S8) (b : ByteArray) (w : World) (hb : b.size ≠ 64) :
    Calls Tryd.prog 16 #[.agg (s8c h), .string b] w fun e w' => e = .returned (.tuple #[.agg (s8c zero8), .int .i64 1]) ∧ Below w.heap.size w w' := by
  simp only [s8c]
  have hb1 : ((b.size : Int) != 64) = true := by rw [bne_iff_ne]; omega
  go_enter Tryd.func16, Tryd.ntmps16
  go_wp2
  exact bodyPost_ret (v := .tuple #[.agg (s8c zero8), .int .i64 1]) (by simp [results, Tryd.results16, go_sem]; rfl) rfl ⟨rfl, below_alloc (below_alloc (Below.refl _ _) _) _⟩
theorem out_step (h y : S8) (j i : Nat) : (if i = j then s8f h j + s8f y j else if i < j then s8f h i + s8f y i else 0) = (if i < j + 1 then s8f h i + s8f y i else 0) := by
  by_cases e : i = j
  · subst e; rw [if_pos rfl, if_pos (by omega)]
  · rw [if_neg e]
    by_cases l : i < j
    · rw [if_pos l, if_pos (by omega)]
    · rw [if_neg l, if_neg (by omega)]
set_option maxRecDepth 100000 in
set_option maxHeartbeats 4000000 in
theorem refcompress_calls (h : S8) (b : ByteArray) (w : World) (hb : b.size = 64) :
    Calls Tryd.prog 16 #[.agg (s8c h), .string b] w fun e w' => e = .returned (.tuple #[.agg (s8c (comp h b)), .int .i64 0]) ∧ Below w.heap.size w w' := by
  simp only [s8c]
  have hb1 : ((b.size : Int) != 64) = false := by rw [hb]; rfl
  have HBS := Lib.hid hb
  clear hb
  go_enter Tryd.func16, Tryd.ntmps16
  go_wp2_with (first
    | (go_at_call 41; with_reducible refine (refsched_calls _ _ HBS.out).mono ?_; rintro e W1 ⟨rfl, hB1⟩; have HF0 := Lib.hid (blk_same (heap_alloc2_old w _ _) hB1); have HF1 := Lib.hid (blk_same (heap_alloc2_new w _ _) hB1); have HFB := Lib.hid ((below_alloc (below_alloc (Below.refl _ w) _) _).trans (hB1.mono (by simp only [World.size_alloc]; omega))); clear hB1)
    | (with_reducible refine wpList_store_row rfl 65 (.tmp 6) (.tmp 23) rfl W1.heap.size (vecN 64 (wd b)) rfl rfl 65 _ (heap_alloc_new W1 _) (by rw [vecN_size]; kernel_rfl) (by rw [vecN_size]; kernel_rfl) (vecN_one 64 _) ?_; generalize hW2 : World.setRow _ _ _ = W2; have HF6 := Lib.hid (show W2.heap[W1.heap.size]? = some (.cells (vecN 64 (wd b)) 65 (0, 0)) by rw [← hW2]; exact setRow_heap _ _ _ _ _ _ (heap_alloc_new W1 _)); have HB2 := Lib.hid (show Below W1.heap.size W1 W2 by rw [← hW2]; exact below_setRow (below_alloc (Below.refl _ _) _) (Nat.le_refl _) _); clear hW2)
    | (go_at_call 42; with_reducible refine (rounds_calls _).mono ?_; rintro e W3 ⟨rfl, hB3⟩; have HB3 := Lib.hid hB3; clear hB3)
    | (with_reducible refine wpList_store_row rfl 65 (.tmp 7) (.tmp 24) rfl W3.heap.size (vecN 64 K) rfl rfl 65 _ (heap_alloc_new W3 _) (by rw [vecN_size]; kernel_rfl) (by rw [vecN_size]; kernel_rfl) (vecN_one 64 _) ?_; generalize hW4 : World.setRow _ _ _ = W4; have HF7 := Lib.hid (show W4.heap[W3.heap.size]? = some (.cells (vecN 64 K) 65 (0, 0)) by rw [← hW4]; exact setRow_heap _ _ _ _ _ _ (heap_alloc_new W3 _)); have HB4 := Lib.hid (show Below W3.heap.size W3 W4 by rw [← hW4]; exact below_setRow (below_alloc (Below.refl _ _) _) (Nat.le_refl _) _); clear hW4; have G0 := blk_same (blk_same (blk_same HF0.out HB2.out) HB3.out) HB4.out; have c0 := (blk_cell G0 0).trans rfl; have c1 := (blk_cell G0 1).trans rfl; have c2 := (blk_cell G0 2).trans rfl; have c3 := (blk_cell G0 3).trans rfl; have c4 := (blk_cell G0 4).trans rfl; have c5 := (blk_cell G0 5).trans rfl; have c6 := (blk_cell G0 6).trans rfl; have c7 := (blk_cell G0 7).trans rfl; clear G0))
  generalize hW5 : World.alloc W4 _ = W5
  have GV : W5.heap[W4.heap.size]? = some (.cells (s8c h) 23 (0, 0)) := by rw [← hW5]; exact heap_alloc_new W4 _
  have hB5 : Below W4.heap.size W4 W5 := by rw [← hW5]; exact below_alloc (Below.refl _ _) _
  have HF0' := Lib.hid (blk_same (blk_same (blk_same (blk_same HF0.out HB2.out) HB3.out) HB4.out) hB5)
  have HF1' := Lib.hid (blk_same (blk_same (blk_same (blk_same HF1.out HB2.out) HB3.out) HB4.out) hB5)
  have HF6' := Lib.hid (blk_same (blk_same (blk_same HF6.out HB3.out) HB4.out) hB5)
  have HF7' := Lib.hid (blk_same HF7.out hB5)
  have z1 : w.heap.size + 1 < W1.heap.size := blk_lt HF1.out
  have z2 : W1.heap.size < W3.heap.size := blk_lt (blk_same HF6.out HB3.out)
  have z3 : W3.heap.size < W4.heap.size := blk_lt HF7.out
  have z4 : W4.heap.size < W5.heap.size := blk_lt GV
  have HFB' := Lib.hid (show Below w.heap.size w W5 from ((HFB.out.trans (HB2.out.mono (by omega))).trans (HB3.out.mono (Nat.le_trans (by omega) HB2.out.size))).trans ((HB4.out.mono (by omega)).trans (hB5.mono (by omega))))
  have HGV := Lib.hid GV
  clear hW5 GV hB5 HF0 HF1 HF6 HF7 HFB HB2 HB3 HB4 c0 c1 c2 c3 c4 c5 c6 c7
  go_loopw [9] (fun i X => ∃ k : Nat, k ≤ 64 ∧ i = .int .i64 k ∧ X.heap[W4.heap.size]? = some (.cells (s8c (run b h k)) 23 (0, 0)) ∧ Gb W4.heap.size W5 X)
    (fun i _ => 64 - (intOf i).toNat)
  case atStart => exact ⟨0, by omega, rfl, HGV.out, gb_refl _ _⟩
  case round =>
    obtain ⟨k, hk, rfl, hV, hX⟩ := hrel
    by_cases hlt : k < 64
    · have k1 : (k : Int) < 64 := by omega
      have k0 : 0 ≤ (k : Int) := by omega
      generalize hv : run b h k = v at hV
      have hstep : run b h (k + 1) = rnd (K k) (wd b k) v := by rw [← hv]; rfl
      have HSTEP := Lib.hid hstep
      clear hv hstep
      have g6 := gb_same hX HF6'.out (by omega)
      have g7 := gb_same hX HF7'.out (by omega)
      have d6 : ∀ p : XB.In (Below wr.heap.size wr), p.w.cell? ⟨W1.heap.size, k, none⟩ = some (.int .u32 (u (wd b k))) := fun p => (blk_cell (blk_same g6 p.h) k).trans (vecN_get _ hlt)
      have d7 : ∀ p : XB.In (Below wr.heap.size wr), p.w.cell? ⟨W3.heap.size, k, none⟩ = some (.int .u32 (u (K k))) := fun p => (blk_cell (blk_same g7 p.h) k).trans (vecN_get _ hlt)
      unfold s8c at hV
      have d5 : ∀ p : XB.In (Below wr.heap.size wr), p.w.cell? ⟨W4.heap.size, 5, none⟩ = some (.int .u32 (u v.f)) := fun p => (blk_cell (blk_same hV p.h) 5).trans rfl
      have d4 : ∀ p : XB.In (Below wr.heap.size wr), p.w.cell? ⟨W4.heap.size, 6, none⟩ = some (.int .u32 (u v.g)) := fun p => (blk_cell (blk_same hV p.h) 6).trans rfl
      have d3 : ∀ p : XB.In (Below wr.heap.size wr), p.w.cell? ⟨W4.heap.size, 7, none⟩ = some (.int .u32 (u v.h)) := fun p => (blk_cell (blk_same hV p.h) 7).trans rfl
      have c0 := (blk_cell hV 0).trans rfl
      have c1 := (blk_cell hV 1).trans rfl
      have c2 := (blk_cell hV 2).trans rfl
      have c4 := (blk_cell hV 4).trans rfl
      have HV := Lib.hid hV
      have HX := Lib.hid hX
      clear hV hX g6 g7
      go_wp2
      have r1 := u_add
      have r2 := u_xor
      have r3 := u_and
      have r5 := u_not
      haveI hne : Nonempty (XB.In (Below wr.heap.size wr)) := ⟨⟨wr.drew, below_drew1 (Below.refl _ _)⟩⟩
      refine XB.region_all (fun w' => ∃ p : XB.In (Below wr.heap.size wr), w' = p.w) (by kernel_rfl) (by kernel_rfl) ⟨⟨wr.drew, below_drew1 (Below.refl _ _)⟩, rfl⟩ ?_
      iterate 31 quiet_step ((go_at_call 43; first | with_reducible exact XB.in_drewB (turn6 _ _) | with_reducible exact XB.in_drewB (turn11 _ _) | with_reducible exact XB.in_drewB (turn25 _ _)))
      refine wpQuiet_nil ?_
      rintro Y ⟨⟨_, hY⟩, rfl⟩
      have ht : u (v.h + (rot 6 v.e ^^^ rot 11 v.e ^^^ rot 25 v.e) + (v.e &&& v.f ^^^ ~~~v.e &&& v.g) + K k + wd b k) = u (tOf (K k) (wd b k) v) := rfl
      go_simp
      clear ht
      have hV2 := blk_same HV.out hY
      have e0 := (blk_cell hV2 0).trans rfl
      have f0 := blk_frozen hV2 0
      have e1 := (blk_cell hV2 1).trans rfl
      have f1 := blk_frozen hV2 1
      have e2 := (blk_cell hV2 2).trans rfl
      have f2 := blk_frozen hV2 2
      have e3 := (blk_cell hV2 3).trans rfl
      have f3 := blk_frozen hV2 3
      have e4 := (blk_cell hV2 4).trans rfl
      have f4 := blk_frozen hV2 4
      have e5 := (blk_cell hV2 5).trans rfl
      have f5 := blk_frozen hV2 5
      have e6 := (blk_cell hV2 6).trans rfl
      have f6 := blk_frozen hV2 6
      have e7 := (blk_cell hV2 7).trans rfl
      have f7 := blk_frozen hV2 7
      have HV2 := Lib.hid hV2
      have HY := Lib.hid hY
      clear hne d3 d4 d5 d6 d7 c0 c1 c2 c4 hV2 hY r1 r5
      have r6 := u_mod
      have hq : u ((rot 2 v.a ^^^ rot 13 v.a ^^^ rot 22 v.a) + (v.a &&& v.b ^^^ v.a &&& v.c ^^^ v.b &&& v.c)) = u (qOf v) := rfl
      rename_i K_ hK_
      refine hK_ _ _ ?_
      clear hK_
      go_wp2_with (first | (go_at_call 43; with_reducible refine (turn2 _ _).mono ?_; rintro e w' ⟨rfl, n2, rfl⟩) | (go_at_call 43; with_reducible refine (turn13 _ _).mono ?_; rintro e w' ⟨rfl, n13, rfl⟩) | (go_at_call 43; with_reducible refine (turn22 _ _).mono ?_; rintro e w' ⟨rfl, n22, rfl⟩))
      clear hq r2 r3 r6
      generalize hZ : World.setCell _ ⟨W4.heap.size, 7, none⟩ _ = Z
      have ZV : Z.heap[W4.heap.size]? = some (.cells (s8c (run b h (k + 1))) 23 (0, 0)) := by rw [← hZ, HSTEP.out]; exact put8 (w := Y.drewN (n2 + n13 + n22)) HV2.out
      have ZG : Gb W4.heap.size Y Z := by rw [← hZ]; exact gb_trans (gb_drewN (gb_refl _ _) _) (gb_put8 _)
      clear hZ
      go_roundw
      case rel => exact ⟨k + 1, by omega, by simp, ZV, gb_trans HX.out (gb_trans (gb_below _ HY.out) ZG)⟩
      case measure => simp [intOf]; omega
    · obtain rfl : k = 64 := by omega
      generalize hye : run b h 64 = y at hV
      have HYE := Lib.hid hye
      have HV := Lib.hid hV
      have HX := Lib.hid hX
      clear hye hV hX
      obtain ⟨wo, rfl⟩ : ∃ wo : World, wo = wr := ⟨_, rfl⟩
      simp only [Int.cast_ofNat_Int]
      go_wp2
      generalize hW6 : World.alloc wo _ = W6
      have G6 : W6.heap[wo.heap.size]? = some (.cells (vec8 (fun _ => 0)) 23 (0, 0)) := by rw [← hW6]; exact heap_alloc_new wo _
      have hB6 : Below wo.heap.size wo W6 := by rw [← hW6]; exact below_alloc (Below.refl _ _) _
      have z5 : W4.heap.size < wo.heap.size := blk_lt HV.out
      have HV6 := Lib.hid (blk_same HV.out hB6)
      have HH6 := Lib.hid (blk_same (gb_same HX.out HF0'.out (by omega)) hB6)
      have HR6 := Lib.hid (blk_same (gb_same HX.out HF1'.out (by omega)) hB6)
      have HB6 := Lib.hid hB6
      have HG6 := Lib.hid G6
      clear hW6 hB6 G6
      go_loopw [17] (fun i X => ∃ j : Nat, j ≤ 8 ∧ i = .int .i64 j ∧ X.heap[wo.heap.size]? = some (.cells (vec8 (fun i => if i < j then s8f h i + s8f y i else 0)) 23 (0, 0)) ∧ Gb wo.heap.size W6 X)
        (fun i _ => 8 - (intOf i).toNat)
      case atStart => exact ⟨0, by omega, rfl, HG6.out, gb_refl _ _⟩
      case round =>
        obtain ⟨j, hj, rfl, hO, hX2⟩ := hrel
        by_cases hlt : j < 8
        · have j1 : (j : Int) < 8 := by omega
          have j0 : 0 ≤ (j : Int) := by omega
          have gv := gb_same hX2 HV6.out (by omega)
          have gh := gb_same hX2 HH6.out (by omega)
          have d1 : ∀ p : XB.In (Below wr.heap.size wr), p.w.cell? ⟨W4.heap.size, j, none⟩ = some (.int .u32 (u (s8f y j))) := fun p => (blk_cell (blk_same gv p.h) j).trans (by rw [s8c_vec, vec8_get _ _ hlt])
          have d2 : ∀ p : XB.In (Below wr.heap.size wr), p.w.cell? ⟨w.heap.size, j, none⟩ = some (.int .u32 (u (s8f h j))) := fun p => (blk_cell (blk_same gh p.h) j).trans (vec8_get (s8f h) j hlt)
          have HO := Lib.hid hO
          have HX2 := Lib.hid hX2
          clear hO hX2 gv gh
          go_wp2
          have r1 := u_add
          haveI hne : Nonempty (XB.In (Below wr.heap.size wr)) := ⟨⟨wr.drew, below_drew1 (Below.refl _ _)⟩⟩
          refine XB.region_tail (fun w' => ∃ p : XB.In (Below wr.heap.size wr), w' = p.w) 9 (by kernel_rfl) (by kernel_rfl) ⟨⟨wr.drew, below_drew1 (Below.refl _ _)⟩, rfl⟩ ?_
          simp only [List.take_succ_cons, List.take_zero, List.drop_succ_cons, List.drop_zero]
          iterate 9 quiet_step (fail)
          refine wpQuiet_nil ?_
          rintro Y ⟨⟨_, hY⟩, rfl⟩
          have hO2 := blk_same HO.out hY
          have e1 := (blk_cell hO2 j).trans (vec8_get _ j hlt)
          have e2 := blk_frozen hO2 j
          have HO2 := Lib.hid hO2
          have HY := Lib.hid hY
          clear hne d1 d2 hO2 hY r1
          go_wp2
          go_roundw
          case rel => exact ⟨j + 1, by omega, by simp, (by rw [blk_set HO2.out j _, vec8_set _ _ _ hlt]; exact congrArg (fun c => some (Obj.cells c 23 (0, 0))) (vec8_congr (fun i _ => out_step h y j i))), gb_trans HX2.out (gb_trans (gb_below _ HY.out) (gb_set _ _ _))⟩
          case measure => simp [intOf]; omega
        · obtain rfl : j = 8 := by omega
          have hend : vec8 (fun i => if i < 8 then s8f h i + s8f y i else 0) = s8c (add8 h y) := by
            rw [s8c_vec]; exact vec8_congr (fun i hi => by rw [if_pos hi, s8f_add])
          rw [hend] at hO
          clear hend
          have hR := gb_same hX2 HR6.out (by omega)
          unfold s8c at hO
          have v0 := (blk_cell hO 0).trans rfl
          have v1 := (blk_cell hO 1).trans rfl
          have v2 := (blk_cell hO 2).trans rfl
          have v3 := (blk_cell hO 3).trans rfl
          have v4 := (blk_cell hO 4).trans rfl
          have v5 := (blk_cell hO 5).trans rfl
          have v6 := (blk_cell hO 6).trans rfl
          have v7 := (blk_cell hO 7).trans rfl
          have y0 := (blk_cell hR 0).trans rfl
          have x0 := blk_frozen hR 0
          have y1 := (blk_cell hR 1).trans rfl
          have x1 := blk_frozen hR 1
          have y2 := (blk_cell hR 2).trans rfl
          have x2 := blk_frozen hR 2
          have y3 := (blk_cell hR 3).trans rfl
          have x3 := blk_frozen hR 3
          have y4 := (blk_cell hR 4).trans rfl
          have x4 := blk_frozen hR 4
          have y5 := (blk_cell hR 5).trans rfl
          have x5 := blk_frozen hR 5
          have y6 := (blk_cell hR 6).trans rfl
          have x6 := blk_frozen hR 6
          have y7 := (blk_cell hR 7).trans rfl
          have x7 := blk_frozen hR 7
          have HR := Lib.hid hR
          have HX2 := Lib.hid hX2
          clear hO hR hX2
          go_wp2
          generalize hXX : World.setCell _ ⟨w.heap.size + 1, 7, none⟩ _ = X
          have XR : X.heap[w.heap.size + 1]? = some (.cells (s8c (add8 h y)) 23 (0, 0)) := by rw [← hXX]; exact put8 HR.out
          have XG : Gb (w.heap.size + 1) wr X := by rw [← hXX]; exact gb_put8 _
          have b1 : Below w.heap.size w wo := HFB'.out.trans (gb_toBelow HX.out HFB'.out.size (by omega))
          have b2 : Below w.heap.size w wr := (b1.trans (HB6.out.mono b1.size)).trans (gb_toBelow HX2.out (Nat.le_trans b1.size HB6.out.size) b1.size)
          have XBl : Below w.heap.size w X := b2.trans (gb_toBelow XG b2.size (by omega))
          clear hXX
          refine bodyPost_ret (XB.resultsX_list (rs := [.cell 4 23, .tmp 5]) (vs := [.agg (s8c (add8 h y)), .int .i64 0]) rfl (by simp) (.cell (w.heap.size + 1) _ _ _ _ rfl XR Tryd.underlying23 rfl (by kernel_rfl) (.tmp .nil))) rfl ⟨?_, XBl⟩
          unfold comp
          rw [HYE.out]
          rfl
end Go.Proofs.YtajaobebcmlhaaaDoor.Pr
