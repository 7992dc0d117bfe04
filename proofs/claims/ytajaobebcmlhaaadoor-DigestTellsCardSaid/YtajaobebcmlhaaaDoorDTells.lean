/-
  The law DigestTells: walked. Condition: the words of the rounds lie where the program has them; the sum on its way is one of int's.
-/
import Derived.Test.YtajaobebcmlhaaaDoorD4
namespace Go.Proofs.YtajaobebcmlhaaaDoor.Pr
open Go.RowKit Go.Shelf Go.Proofs.YtajaobebcmlhaaaDoor.XB Go.Proofs.Sha Go.Proofs.YtajaobebcmlhaaaDoorW.PrintWords
attribute [local go_sem] Oper.semAt_some
set_option linter.unusedVariables false
set_option linter.unusedSimpArgs false
set_option maxRecDepth 100000
theorem info25 : ∃ i z, Tryd.prog.info? 25 = some i ∧ i.zero = some z ∧ i.size = 10 ∧ z.cells = hsc zeroH := by
  have h : (Tryd.prog.info? 25).isSome = true := by kernel_rfl
  have h2 : (((Tryd.prog.info? 25).get h).zero).isSome = true := by kernel_rfl
  refine ⟨(Tryd.prog.info? 25).get h, (((Tryd.prog.info? 25).get h).zero).get h2, by simp, by simp, ?_, ?_⟩ <;> kernel_rfl
theorem fill5 (a b c d e : Hs) : Instr.fill (fun i => some (i * 10, 10)) ((Array.range (5 * 10)).map ((hsc zeroH)[· % (hsc zeroH).size]!)) [(0, .agg (hsc a)), (1, .agg (hsc b)), (2, .agg (hsc c)), (3, .agg (hsc d)), (4, .agg (hsc e))] = some (five a b c d e) := by kernel_rfl
theorem wpList_five {ops : Array Oper} {rest : List Oper} {o : Oper} {s : Act} {w : World} {Q : Exit → Act → World → Prop} (hg : o.guard = none) (parts : Array (Nat × Operand)) (ho : o.op = .buildSlice 36 5 parts) (a b c d e : Hs)
    (hp : (parts.map fun (i, x) => (i, s.eval x)).toList = [(0, .agg (hsc a)), (1, .agg (hsc b)), (2, .agg (hsc c)), (3, .agg (hsc d)), (4, .agg (hsc e))])
    (h : wpList Tryd.prog ops Q rest (s.put o.dst (.slice (some ⟨w.heap.size, 0, none⟩) 5 5)) (w.alloc (.cells (five a b c d e) 25))) : wpList Tryd.prog ops Q (o :: rest) s w := by
  obtain ⟨i, z, h1, h2, h3, h4⟩ := info25
  exact wpList_buildSlice hg 36 25 5 parts ho _ i z Tryd.underlying36 h1 h2 (by rw [h3]; decide) (by rw [h3]; decide) (by rw [hp, h3, h4]; exact fill5 a b c d e) h
def lenT : Value → Nat
  | .string t => t.size
  | _ => 0
def zt (s : ByteArray) (j : Nat) : ByteArray := s ++ ⟨(List.replicate j 0).toArray⟩
theorem zt_zero (s : ByteArray) : zt s 0 = s := ByteArray.append_empty
theorem zt_next (s : ByteArray) (j : Nat) : zt s j ++ ⟨#[0]⟩ = zt s (j + 1) := by
  unfold zt
  apply ByteArray.ext
  simp only [ByteArray.data_append, Array.append_assoc]
  congr 1
  apply Array.toList_inj.1
  rw [List.replicate_succ']
  simp
theorem zt_size (s : ByteArray) (j : Nat) : (zt s j).size = s.size + j := by unfold zt; rw [ByteArray.size_append, rep_size]
def compH (v : S8) (b : ByteArray) : S8 × Int := if b.size = 64 then (comp v b, 0) else (zero8, 1)
theorem comp_any (v : S8) (b : ByteArray) (w : World) (hG : Tbl w) : Calls Tryd.prog 15 #[.agg (s8c v), .string b] w fun e w' => e = .returned (.tuple #[.agg (s8c (compH v b).1), .int .i64 (compH v b).2]) ∧ Below w.heap.size w w' := by
  unfold compH
  by_cases h : b.size = 64
  · rw [if_pos h]; exact compress_calls v b w h hG
  · rw [if_neg h]; exact compress_err v b w h
theorem refcomp_any (v : S8) (b : ByteArray) (w : World) : Calls Tryd.prog 16 #[.agg (s8c v), .string b] w fun e w' => e = .returned (.tuple #[.agg (s8c (compH v b).1), .int .i64 (compH v b).2]) ∧ Below w.heap.size w w' := by
  unfold compH
  by_cases h : b.size = 64
  · rw [if_pos h]; exact refcompress_calls v b w h
  · rw [if_neg h]; exact refcompress_err v b w h
theorem s8c_size8 (v v' : S8) : (s8c v).size = (s8c v').size := rfl
set_option maxHeartbeats 8000000 in
theorem dtells_calls (h : S8) (s t : ByteArray) (odd : Hs) (w : World) (hG : Tbl w) (ho0 : -9223372036854775808 ≤ odd.many) (ho1 : odd.many ≤ 9223372036854775807) :
    Calls Tryd.prog 3 #[.agg (s8c h), .string s, .string t, .agg (hsc odd)] w fun e w' => e = .returned (.bool true) ∧ Below w.heap.size w w' := by
  have HG := Lib.hid hG
  clear hG
  have hm0 : (0 : Int) ≤ min (s.size : Int) 500 := by omega
  have hm1 : min (s.size : Int) 500 ≤ (s.size : Int) := by omega
  have hn0 : (0 : Int) ≤ min (t.size : Int) 500 := by omega
  have hn1 : min (t.size : Int) 500 ≤ (t.size : Int) := by omega
  have hxs : (s.extract 0 (min (s.size : Int) 500).toNat).size ≤ 500 := by rw [ByteArray.size_extract]; omega
  have hys : (t.extract 0 (min (t.size : Int) 500).toNat).size ≤ 500 := by rw [ByteArray.size_extract]; omega
  go_enter Tryd.func3, Tryd.ntmps3
  go_wp2_with (first
    | (go_at_call 14; with_reducible refine (awake_calls _ (HG.out.below (below_alloc (below_alloc (Below.refl _ _) _) _))).mono ?_; rintro e W1 ⟨rfl, hb⟩; have HR4 := Lib.hid (blk_same (heap_alloc2_old w _ _) hb); have HR7 := Lib.hid (blk_same (heap_alloc2_new w _ _) hb); have HB1 := Lib.hid ((below_alloc (below_alloc (Below.refl w.heap.size w) _) _).trans (hb.mono (by simp only [World.size_alloc]; omega))); clear hb))
  generalize s.extract 0 (min (s.size : Int) 500).toNat = x at *
  generalize t.extract 0 (min (t.size : Int) 500).toNat = y at *
  clear hm0 hm1 hn0 hn1
  go_loopw [12] (fun v12 X => ∃ j : Nat, j ≤ 64 - x.size ∧ v12 = .string (zt x j) ∧ X = W1) (fun v12 _ => 64 - lenT v12)
  case atStart => exact ⟨0, by omega, by rw [zt_zero], rfl⟩
  case round =>
    obtain ⟨j, hj, rfl, hwr⟩ := hrel
    subst hwr
    have hs1 := zt_size x j
    by_cases hlt : j < 64 - x.size
    · have HNX := Lib.hid (zt_next x j)
      have hl : ((zt x j).size : Int) < 64 := by omega
      generalize zt x j = T at *
      go_wp2
      go_roundw
      case rel => exact ⟨j + 1, by omega, by rw [← HNX.out], by first | rfl | trivial⟩
      case measure =>
        have e1 : (⟨#[0]⟩ : ByteArray).size = 1 := rfl
        simp [lenT, ByteArray.size_append, e1]; omega
    · have hl : ¬ ((zt x j).size : Int) < 64 := by omega
      have hl2 : (64 : Int) ≤ ((zt x j).size : Int) := by omega
      generalize zt x j = T at *
      clear hs1 hlt hj
      go_wp2
      generalize hW2 : World.alloc wr _ = W2
      have F0 : W2.heap[wr.heap.size]? = some (.cells #[.string (T.extract 0 64), .string x] 9 (0, 0)) := by rw [← hW2]; exact heap_alloc_new wr _
      have hr4 : W2.heap[w.heap.size]? = some (.cells (s8c h) 23 (0, 0)) := by rw [← hW2]; exact blk_alloc HR4.out _
      have hr7 : W2.heap[w.heap.size + 1]? = some (.cells (hsc odd) 25 (0, 0)) := by rw [← hW2]; exact blk_alloc HR7.out _
      have hb2 : Below w.heap.size w W2 := by rw [← hW2]; exact below_alloc HB1.out _
      generalize wr.heap.size = g at *
      have HF0 := Lib.hid F0
      have HQ4 := Lib.hid hr4
      have HQ7 := Lib.hid hr7
      have HB2 := Lib.hid hb2
      clear hW2 F0 hr4 hr7 hb2 HR4 HR7 HB1 hl hl2
      go_loopw [62] (fun v X => ∃ i : Nat, i ≤ 2 ∧ v = .int .i64 (i : Int) ∧ Below W2.heap.size W2 X) (fun v _ => 2 - (intOf v).toNat)
      case atStart => exact ⟨0, by omega, rfl, Below.refl _ _⟩
      case round =>
        obtain ⟨i, hi, rfl, hX⟩ := hrel
        by_cases hlt2 : i < 2
        · have i2 : (i : Int) < 2 := by omega
          have hT := blk_same HF0.out hX
          obtain ⟨b, hb⟩ : ∃ b, wr.cell? ⟨g, i, none⟩ = some (.string b) := by
            have hh : i = 0 ∨ i = 1 := by omega
            rcases hh with rfl | rfl
            · exact ⟨_, (blk_cell hT 0).trans rfl⟩
            · exact ⟨_, (blk_cell hT 1).trans rfl⟩
          have HC := Lib.hid (fun W (q : Tbl W) => comp_any h b W q)
          have HCR := Lib.hid (fun W => refcomp_any h b W)
          generalize compH h b = cc at *
          obtain ⟨v, r⟩ := cc
          have ke : ∀ W, Sem.run Tryd.prog (Op.equalIn 10000 23 (.agg (s8c v)) (.agg (s8c v))) W = .ok true W := fun W => eq8 v W
          have HR4 := Lib.hid (blk_same HQ4.out hX)
          have HXX := Lib.hid hX
          have HB := Lib.hid (HB2.out.trans (hX.mono HB2.out.size))
          clear hT hX
          go_wp2_with (first
            | (with_reducible refine wpList_load_row rfl 23 (.tmp 4) rfl w.heap.size rfl 23 (s8c h) (0, 0) _ HR4.out Tryd.underlying23 rfl (by kernel_rfl) ?_)
            | (go_at_call 15; with_reducible refine (HC.out _ (HG.out.below HB.out)).mono ?_; rintro e W3 ⟨rfl, hb⟩; have HB3n := Lib.hid hb; have HB3 := Lib.hid (HB.out.trans (hb.mono HB.out.size)); clear hb)
            | (with_reducible refine wpList_store_row rfl 23 (.tmp 15) (.tmp 70) rfl W3.heap.size (s8c v) rfl (by first | rfl | kernel_rfl) 23 _ (heap_alloc_new W3 _) (by kernel_rfl) (by first | rfl | kernel_rfl) (by first | rfl | kernel_rfl) ?_; generalize hX : World.setRow _ W3.heap.size (s8c v) = X3; have HR15 := (show Hid (X3.heap[W3.heap.size]? = some (.cells (s8c v) 23 (0, 0))) from Lib.hid (by rw [← hX]; exact setRow_heap _ W3.heap.size _ (s8c v) 23 (0, 0) (heap_alloc_new W3 _))); have HX3n := (show Hid (Below W3.heap.size W3 X3) from Lib.hid (by rw [← hX]; exact below_setRow (below_alloc (Below.refl W3.heap.size W3) _) (Nat.le_refl _) (s8c v))); have HX3 := Lib.hid (HB3.out.trans (HX3n.out.mono HB3.out.size)); have HR4a := Lib.hid (blk_same (blk_same HR4.out HB3n.out) HX3n.out); clear hX)
            | (with_reducible refine wpList_load_row rfl 23 (.tmp 4) rfl w.heap.size rfl 23 (s8c h) (0, 0) _ HR4a.out Tryd.underlying23 rfl (by kernel_rfl) ?_)
            | (go_at_call 16; with_reducible refine (HCR.out _).mono ?_; rintro e W4 ⟨rfl, hb⟩; have HB4n := Lib.hid hb; have HB4 := Lib.hid (HX3.out.trans (hb.mono HX3.out.size)); clear hb)
            | (with_reducible refine wpList_store_row rfl 23 (.tmp 17) (.tmp 76) rfl W4.heap.size (s8c v) rfl (by first | rfl | kernel_rfl) 23 _ (heap_alloc_new W4 _) (by kernel_rfl) (by first | rfl | kernel_rfl) (by first | rfl | kernel_rfl) ?_; generalize hX : World.setRow _ W4.heap.size (s8c v) = X4; have HR17 := (show Hid (X4.heap[W4.heap.size]? = some (.cells (s8c v) 23 (0, 0))) from Lib.hid (by rw [← hX]; exact setRow_heap _ W4.heap.size _ (s8c v) 23 (0, 0) (heap_alloc_new W4 _))); have HX4n := (show Hid (Below W4.heap.size W4 X4) from Lib.hid (by rw [← hX]; exact below_setRow (below_alloc (Below.refl W4.heap.size W4) _) (Nat.le_refl _) (s8c v))); have HX4 := Lib.hid (HB4.out.trans (HX4n.out.mono HB4.out.size)); have HR15a := Lib.hid (blk_same (blk_same HR15.out HB4n.out) HX4n.out); clear hX)
            | (with_reducible refine wpList_load_row rfl 23 (.tmp 15) rfl W3.heap.size rfl 23 (s8c v) (0, 0) _ HR15a.out Tryd.underlying23 rfl (by kernel_rfl) ?_)
            | (with_reducible refine wpList_load_row rfl 23 (.tmp 17) rfl W4.heap.size rfl 23 (s8c v) (0, 0) _ HR17.out Tryd.underlying23 rfl (by kernel_rfl) ?_))
          have b1 := HB3n.out
          have b2 := b1.trans (HX3n.out.mono b1.size)
          have b3 := b2.trans (HB4n.out.mono b2.size)
          have b4 := b3.trans (HX4n.out.mono b3.size)
          go_roundw
          case rel => exact ⟨i + 1, by omega, congrArg (Value.int .i64) (by omega), HXX.out.trans (b4.mono HXX.out.size)⟩
          case measure => simp [intOf]; omega
        · obtain rfl : i = 2 := by omega
          have e2 : ((2 : Nat) : Int) = 2 := rfl
          rw [e2]
          clear e2
          obtain ⟨V, hV⟩ : ∃ V, V = wr := ⟨_, rfl⟩
          subst hV
          have HR7 := Lib.hid (blk_same HQ7.out hX)
          have HBV := Lib.hid (HB2.out.trans (hX.mono HB2.out.size))
          obtain ⟨A, hA, hAm0, hAm1⟩ : ∃ A, addH newH x = (A, 0) ∧ 0 ≤ A.many ∧ A.many ≤ 500 := ⟨_, st_new x (by omega), by show (0 : Int) ≤ (x.size : Int); omega, by show (x.size : Int) ≤ 500; omega⟩
          have HA : Hid (∀ W, Tbl W → Calls Tryd.prog 17 #[.agg (hsc newH), .string x] W fun e w' => e = .returned (.tuple #[.agg (hsc A), .int .i64 0]) ∧ Below W.heap.size W w') := Lib.hid (fun W q => by have := add_calls newH x W q; rw [hA] at this; exact this)
          have HAR : Hid (∀ W, Calls Tryd.prog 19 #[.agg (hsc newH), .string x] W fun e w' => e = .returned (.tuple #[.agg (hsc A), .int .i64 0]) ∧ Below W.heap.size W w') := Lib.hid (fun W => by have := refadd_calls newH x W; rw [hA] at this; exact this)
          have HSA := Lib.hid (fun W => same_calls A W)
          have HSN := Lib.hid (fun W => same_calls newH W)
          have HSU : Hid (∀ W, Tbl W → Calls Tryd.prog 27 #[.string x] W fun e w' => e = .returned (.tuple #[.string (sumH x).1, .int .i64 (sumH x).2]) ∧ Below W.heap.size W w') := Lib.hid (fun W q => sum_calls x W q)
          have HSR : Hid (∀ W, Calls Tryd.prog 28 #[.string x] W fun e w' => e = .returned (.tuple #[.string (sumH x).1, .int .i64 (sumH x).2]) ∧ Below W.heap.size W w') := Lib.hid (fun W => refsum_calls x W)
          generalize sumH x = sx at *
          obtain ⟨sx, sxe⟩ := sx
          clear hA hX HF0 HQ4 HQ7 HB2
          by_cases hlong : (500 : Int) < (odd.rest.size : Int)
          · skip
            go_wp2_with (first
              | (go_at_call 18; with_reducible refine (new_calls _).mono ?_; rintro e Wd ⟨rfl, hb⟩; have HBdn := Lib.hid hb; have HBd := Lib.hid (HBV.out.trans (hb.mono HBV.out.size)); clear hb)
              | (go_at_call 17; with_reducible refine (HA.out _ (HG.out.below HBd.out)).mono ?_; rintro e We ⟨rfl, hb⟩; have HBen := Lib.hid hb; have HBe := Lib.hid (HBd.out.trans (hb.mono HBd.out.size)); clear hb)
              | (with_reducible refine wpList_store_row rfl 25 (.tmp 19) (.tmp 91) rfl We.heap.size (hsc A) rfl (by first | rfl | kernel_rfl) 25 _ (heap_alloc_new We _) (by kernel_rfl) (by first | rfl | kernel_rfl) (by first | rfl | kernel_rfl) ?_; generalize hX : World.setRow _ We.heap.size (hsc A) = X5; have HR19 := (show Hid (X5.heap[We.heap.size]? = some (.cells (hsc A) 25 (0, 0))) from Lib.hid (by rw [← hX]; exact setRow_heap _ We.heap.size _ (hsc A) 25 (0, 0) (heap_alloc_new We _))); have HX5n := (show Hid (Below We.heap.size We X5) from Lib.hid (by rw [← hX]; exact below_setRow (below_alloc (Below.refl We.heap.size We) _) (Nat.le_refl _) (hsc A))); have HX5 := Lib.hid (HBe.out.trans (HX5n.out.mono HBe.out.size)); clear hX)
              | (go_at_call 20; with_reducible refine (refnew_calls _).mono ?_; rintro e Wf ⟨rfl, hb⟩; have HBfn := Lib.hid hb; have HBf := Lib.hid (HX5.out.trans (hb.mono HX5.out.size)); clear hb)
              | (go_at_call 19; with_reducible refine (HAR.out _).mono ?_; rintro e Wg ⟨rfl, hb⟩; have HBgn := Lib.hid hb; have HBg := Lib.hid (HBf.out.trans (hb.mono HBf.out.size)); clear hb)
              | (with_reducible refine wpList_store_row rfl 25 (.tmp 21) (.tmp 97) rfl Wg.heap.size (hsc A) rfl (by first | rfl | kernel_rfl) 25 _ (heap_alloc_new Wg _) (by kernel_rfl) (by first | rfl | kernel_rfl) (by first | rfl | kernel_rfl) ?_; generalize hX : World.setRow _ Wg.heap.size (hsc A) = X6; have HR21 := (show Hid (X6.heap[Wg.heap.size]? = some (.cells (hsc A) 25 (0, 0))) from Lib.hid (by rw [← hX]; exact setRow_heap _ Wg.heap.size _ (hsc A) 25 (0, 0) (heap_alloc_new Wg _))); have HX6n := (show Hid (Below Wg.heap.size Wg X6) from Lib.hid (by rw [← hX]; exact below_setRow (below_alloc (Below.refl Wg.heap.size Wg) _) (Nat.le_refl _) (hsc A))); have HX6 := Lib.hid (HBg.out.trans (HX6n.out.mono HBg.out.size)); have HR19a := Lib.hid (blk_same (blk_same (blk_same (HR19.out) HBfn.out) HBgn.out) HX6n.out); clear hX)
              | (with_reducible refine wpList_load_row rfl 25 (.tmp 19) rfl We.heap.size rfl 25 (hsc A) (0, 0) _ HR19a.out Tryd.underlying25 rfl (by kernel_rfl) ?_)
              | (with_reducible refine wpList_load_row rfl 25 (.tmp 21) rfl Wg.heap.size rfl 25 (hsc A) (0, 0) _ HR21.out Tryd.underlying25 rfl (by kernel_rfl) ?_)
              | (go_at_call 21; with_reducible refine (HSA.out _).mono ?_; rintro e Wh ⟨rfl, hb⟩; have HBhn := Lib.hid hb; have HBh := Lib.hid (HX6.out.trans (hb.mono HX6.out.size)); clear hb)
              | (go_at_call 18; with_reducible refine (new_calls _).mono ?_; rintro e Wi ⟨rfl, hb⟩; have HBin := Lib.hid hb; have HBi := Lib.hid (HBh.out.trans (hb.mono HBh.out.size)); clear hb)
              | (go_at_call 20; with_reducible refine (refnew_calls _).mono ?_; rintro e Wj ⟨rfl, hb⟩; have HBjn := Lib.hid hb; have HBj := Lib.hid (HBi.out.trans (hb.mono HBi.out.size)); clear hb)
              | (go_at_call 21; with_reducible refine (HSN.out _).mono ?_; rintro e Wk ⟨rfl, hb⟩; have HBkn := Lib.hid hb; have HBk := Lib.hid (HBj.out.trans (hb.mono HBj.out.size)); clear hb; have HR21k := Lib.hid (blk_same (blk_same (blk_same (blk_same (HR21.out) HBhn.out) HBin.out) HBjn.out) HBkn.out))
              | (with_reducible refine wpList_load_row rfl 25 (.tmp 21) rfl Wg.heap.size rfl 25 (hsc A) (0, 0) _ HR21k.out Tryd.underlying25 rfl (by kernel_rfl) ?_)
              | (with_reducible refine wpList_store_row rfl 25 (.tmp 23) (.tmp 114) rfl Wk.heap.size (hsc A) rfl (by first | rfl | kernel_rfl) 25 _ (heap_alloc_new Wk _) (by kernel_rfl) (by first | rfl | kernel_rfl) (by first | rfl | kernel_rfl) ?_; generalize hX : World.setRow _ Wk.heap.size (hsc A) = X7; have HR23 := (show Hid (X7.heap[Wk.heap.size]? = some (.cells (hsc A) 25 (0, 0))) from Lib.hid (by rw [← hX]; exact setRow_heap _ Wk.heap.size _ (hsc A) 25 (0, 0) (heap_alloc_new Wk _))); have HX7n := (show Hid (Below Wk.heap.size Wk X7) from Lib.hid (by rw [← hX]; exact below_setRow (below_alloc (Below.refl Wk.heap.size Wk) _) (Nat.le_refl _) (hsc A))); have HX7 := Lib.hid (HBk.out.trans (HX7n.out.mono HBk.out.size)); clear hX; have HR21l := Lib.hid (blk_same HR21k.out HX7n.out); have HR7l := Lib.hid (blk_same (blk_same (blk_same (blk_same (blk_same (blk_same (blk_same (blk_same (blk_same (blk_same (blk_same (HR7.out) HBdn.out) HBen.out) HX5n.out) HBfn.out) HBgn.out) HX6n.out) HBhn.out) HBin.out) HBjn.out) HBkn.out) HX7n.out); have o9 : X7.cell? ⟨w.heap.size + 1, 9, none⟩ = some (.int .i64 odd.many) := (blk_cell HR7l.out 9).trans rfl; have z9 : X7.cell? ⟨Wk.heap.size, 9, none⟩ = some (.int .i64 A.many) := (blk_cell HR23.out 9).trans rfl; have zf9 := blk_frozen HR23.out 9)
              | (generalize hX8 : World.setCell X7 _ _ = X8; have HR23b := (show Hid (X8.heap[Wk.heap.size]? = some (.cells (hsc ⟨A.H, A.rest, odd.many⟩) 25 (0, 0))) from Lib.hid (by rw [← hX8]; exact blk_set HR23.out 9 _)); have HG8 := (show Hid (Gb Wk.heap.size X7 X8) from Lib.hid (by rw [← hX8]; exact gb_set _ _ _)); have zz := (show Hid (Wg.heap.size < Wk.heap.size ∧ w.heap.size + 1 < Wk.heap.size ∧ w.heap.size ≤ Wk.heap.size) from Lib.hid ⟨blk_lt HR21k.out, Nat.lt_of_lt_of_le (blk_lt HR7.out) (by have h1 := HBdn.out.size; have h2 := HBen.out.size; have h3 := HX5n.out.size; have h4 := HBfn.out.size; have h5 := HBgn.out.size; have h6 := HX6n.out.size; have h7 := HBhn.out.size; have h8 := HBin.out.size; have h9 := HBjn.out.size; have h10 := HBkn.out.size; omega), HBk.out.size⟩); have HR21b := Lib.hid (gb_same HG8.out HR21l.out (by have := zz.out; omega)); have HR7b := Lib.hid (gb_same HG8.out HR7l.out (by have := zz.out; omega)); have HX8 := Lib.hid (HX7.out.trans (gb_toBelow HG8.out HX7.out.size zz.out.2.2)); with_reducible refine wpList_load_row rfl 25 (.tmp 21) rfl Wg.heap.size rfl 25 (hsc A) (0, 0) _ HR21b.out Tryd.underlying25 rfl (by kernel_rfl) ?_; clear hX8 o9 z9 zf9)
              | (with_reducible refine wpList_store_row rfl 25 (.tmp 24) (.tmp 118) rfl X8.heap.size (hsc A) rfl (by first | rfl | kernel_rfl) 25 _ (heap_alloc_new X8 _) (by kernel_rfl) (by first | rfl | kernel_rfl) (by first | rfl | kernel_rfl) ?_; generalize hX : World.setRow _ X8.heap.size (hsc A) = X9; have HR24 := (show Hid (X9.heap[X8.heap.size]? = some (.cells (hsc A) 25 (0, 0))) from Lib.hid (by rw [← hX]; exact setRow_heap _ X8.heap.size _ (hsc A) 25 (0, 0) (heap_alloc_new X8 _))); have HX9n := (show Hid (Below X8.heap.size X8 X9) from Lib.hid (by rw [← hX]; exact below_setRow (below_alloc (Below.refl X8.heap.size X8) _) (Nat.le_refl _) (hsc A))); have HX9 := Lib.hid (HX8.out.trans (HX9n.out.mono HX8.out.size)); clear hX; have HR21c := Lib.hid (blk_same HR21b.out HX9n.out); have HR7c := Lib.hid (blk_same HR7b.out HX9n.out); have HR23c := Lib.hid (blk_same HR23b.out HX9n.out); have o8 : X9.cell? ⟨w.heap.size + 1, 8, none⟩ = some (.string odd.rest) := (blk_cell HR7c.out 8).trans rfl; have z8 : X9.cell? ⟨X8.heap.size, 8, none⟩ = some (.string A.rest) := (blk_cell HR24.out 8).trans rfl; have zf8 := blk_frozen HR24.out 8))
            go_ret
            exact ⟨rfl, HX9.out.trans (gb_toBelow (gb_set X9 8 (.string odd.rest)) HX9.out.size HX8.out.size)⟩
          · skip
            go_wp2_with (first
              | (go_at_call 18; with_reducible refine (new_calls _).mono ?_; rintro e Wd ⟨rfl, hb⟩; have HBdn := Lib.hid hb; have HBd := Lib.hid (HBV.out.trans (hb.mono HBV.out.size)); clear hb)
              | (go_at_call 17; with_reducible refine (HA.out _ (HG.out.below HBd.out)).mono ?_; rintro e We ⟨rfl, hb⟩; have HBen := Lib.hid hb; have HBe := Lib.hid (HBd.out.trans (hb.mono HBd.out.size)); clear hb)
              | (with_reducible refine wpList_store_row rfl 25 (.tmp 19) (.tmp 91) rfl We.heap.size (hsc A) rfl (by first | rfl | kernel_rfl) 25 _ (heap_alloc_new We _) (by kernel_rfl) (by first | rfl | kernel_rfl) (by first | rfl | kernel_rfl) ?_; generalize hX : World.setRow _ We.heap.size (hsc A) = X5; have HR19 := (show Hid (X5.heap[We.heap.size]? = some (.cells (hsc A) 25 (0, 0))) from Lib.hid (by rw [← hX]; exact setRow_heap _ We.heap.size _ (hsc A) 25 (0, 0) (heap_alloc_new We _))); have HX5n := (show Hid (Below We.heap.size We X5) from Lib.hid (by rw [← hX]; exact below_setRow (below_alloc (Below.refl We.heap.size We) _) (Nat.le_refl _) (hsc A))); have HX5 := Lib.hid (HBe.out.trans (HX5n.out.mono HBe.out.size)); clear hX)
              | (go_at_call 20; with_reducible refine (refnew_calls _).mono ?_; rintro e Wf ⟨rfl, hb⟩; have HBfn := Lib.hid hb; have HBf := Lib.hid (HX5.out.trans (hb.mono HX5.out.size)); clear hb)
              | (go_at_call 19; with_reducible refine (HAR.out _).mono ?_; rintro e Wg ⟨rfl, hb⟩; have HBgn := Lib.hid hb; have HBg := Lib.hid (HBf.out.trans (hb.mono HBf.out.size)); clear hb)
              | (with_reducible refine wpList_store_row rfl 25 (.tmp 21) (.tmp 97) rfl Wg.heap.size (hsc A) rfl (by first | rfl | kernel_rfl) 25 _ (heap_alloc_new Wg _) (by kernel_rfl) (by first | rfl | kernel_rfl) (by first | rfl | kernel_rfl) ?_; generalize hX : World.setRow _ Wg.heap.size (hsc A) = X6; have HR21 := (show Hid (X6.heap[Wg.heap.size]? = some (.cells (hsc A) 25 (0, 0))) from Lib.hid (by rw [← hX]; exact setRow_heap _ Wg.heap.size _ (hsc A) 25 (0, 0) (heap_alloc_new Wg _))); have HX6n := (show Hid (Below Wg.heap.size Wg X6) from Lib.hid (by rw [← hX]; exact below_setRow (below_alloc (Below.refl Wg.heap.size Wg) _) (Nat.le_refl _) (hsc A))); have HX6 := Lib.hid (HBg.out.trans (HX6n.out.mono HBg.out.size)); have HR19a := Lib.hid (blk_same (blk_same (blk_same (HR19.out) HBfn.out) HBgn.out) HX6n.out); clear hX)
              | (with_reducible refine wpList_load_row rfl 25 (.tmp 19) rfl We.heap.size rfl 25 (hsc A) (0, 0) _ HR19a.out Tryd.underlying25 rfl (by kernel_rfl) ?_)
              | (with_reducible refine wpList_load_row rfl 25 (.tmp 21) rfl Wg.heap.size rfl 25 (hsc A) (0, 0) _ HR21.out Tryd.underlying25 rfl (by kernel_rfl) ?_)
              | (go_at_call 21; with_reducible refine (HSA.out _).mono ?_; rintro e Wh ⟨rfl, hb⟩; have HBhn := Lib.hid hb; have HBh := Lib.hid (HX6.out.trans (hb.mono HX6.out.size)); clear hb)
              | (go_at_call 18; with_reducible refine (new_calls _).mono ?_; rintro e Wi ⟨rfl, hb⟩; have HBin := Lib.hid hb; have HBi := Lib.hid (HBh.out.trans (hb.mono HBh.out.size)); clear hb)
              | (go_at_call 20; with_reducible refine (refnew_calls _).mono ?_; rintro e Wj ⟨rfl, hb⟩; have HBjn := Lib.hid hb; have HBj := Lib.hid (HBi.out.trans (hb.mono HBi.out.size)); clear hb)
              | (go_at_call 21; with_reducible refine (HSN.out _).mono ?_; rintro e Wk ⟨rfl, hb⟩; have HBkn := Lib.hid hb; have HBk := Lib.hid (HBj.out.trans (hb.mono HBj.out.size)); clear hb; have HR21k := Lib.hid (blk_same (blk_same (blk_same (blk_same (HR21.out) HBhn.out) HBin.out) HBjn.out) HBkn.out))
              | (with_reducible refine wpList_load_row rfl 25 (.tmp 21) rfl Wg.heap.size rfl 25 (hsc A) (0, 0) _ HR21k.out Tryd.underlying25 rfl (by kernel_rfl) ?_)
              | (with_reducible refine wpList_store_row rfl 25 (.tmp 23) (.tmp 114) rfl Wk.heap.size (hsc A) rfl (by first | rfl | kernel_rfl) 25 _ (heap_alloc_new Wk _) (by kernel_rfl) (by first | rfl | kernel_rfl) (by first | rfl | kernel_rfl) ?_; generalize hX : World.setRow _ Wk.heap.size (hsc A) = X7; have HR23 := (show Hid (X7.heap[Wk.heap.size]? = some (.cells (hsc A) 25 (0, 0))) from Lib.hid (by rw [← hX]; exact setRow_heap _ Wk.heap.size _ (hsc A) 25 (0, 0) (heap_alloc_new Wk _))); have HX7n := (show Hid (Below Wk.heap.size Wk X7) from Lib.hid (by rw [← hX]; exact below_setRow (below_alloc (Below.refl Wk.heap.size Wk) _) (Nat.le_refl _) (hsc A))); have HX7 := Lib.hid (HBk.out.trans (HX7n.out.mono HBk.out.size)); clear hX; have HR21l := Lib.hid (blk_same HR21k.out HX7n.out); have HR7l := Lib.hid (blk_same (blk_same (blk_same (blk_same (blk_same (blk_same (blk_same (blk_same (blk_same (blk_same (blk_same (HR7.out) HBdn.out) HBen.out) HX5n.out) HBfn.out) HBgn.out) HX6n.out) HBhn.out) HBin.out) HBjn.out) HBkn.out) HX7n.out); have o9 : X7.cell? ⟨w.heap.size + 1, 9, none⟩ = some (.int .i64 odd.many) := (blk_cell HR7l.out 9).trans rfl; have z9 : X7.cell? ⟨Wk.heap.size, 9, none⟩ = some (.int .i64 A.many) := (blk_cell HR23.out 9).trans rfl; have zf9 := blk_frozen HR23.out 9)
              | (generalize hX8 : World.setCell X7 _ _ = X8; have HR23b := (show Hid (X8.heap[Wk.heap.size]? = some (.cells (hsc ⟨A.H, A.rest, odd.many⟩) 25 (0, 0))) from Lib.hid (by rw [← hX8]; exact blk_set HR23.out 9 _)); have HG8 := (show Hid (Gb Wk.heap.size X7 X8) from Lib.hid (by rw [← hX8]; exact gb_set _ _ _)); have zz := (show Hid (Wg.heap.size < Wk.heap.size ∧ w.heap.size + 1 < Wk.heap.size ∧ w.heap.size ≤ Wk.heap.size) from Lib.hid ⟨blk_lt HR21k.out, Nat.lt_of_lt_of_le (blk_lt HR7.out) (by have h1 := HBdn.out.size; have h2 := HBen.out.size; have h3 := HX5n.out.size; have h4 := HBfn.out.size; have h5 := HBgn.out.size; have h6 := HX6n.out.size; have h7 := HBhn.out.size; have h8 := HBin.out.size; have h9 := HBjn.out.size; have h10 := HBkn.out.size; omega), HBk.out.size⟩); have HR21b := Lib.hid (gb_same HG8.out HR21l.out (by have := zz.out; omega)); have HR7b := Lib.hid (gb_same HG8.out HR7l.out (by have := zz.out; omega)); have HX8 := Lib.hid (HX7.out.trans (gb_toBelow HG8.out HX7.out.size zz.out.2.2)); with_reducible refine wpList_load_row rfl 25 (.tmp 21) rfl Wg.heap.size rfl 25 (hsc A) (0, 0) _ HR21b.out Tryd.underlying25 rfl (by kernel_rfl) ?_; clear hX8 o9 z9 zf9)
              | (with_reducible refine wpList_store_row rfl 25 (.tmp 24) (.tmp 118) rfl X8.heap.size (hsc A) rfl (by first | rfl | kernel_rfl) 25 _ (heap_alloc_new X8 _) (by kernel_rfl) (by first | rfl | kernel_rfl) (by first | rfl | kernel_rfl) ?_; generalize hX : World.setRow _ X8.heap.size (hsc A) = X9; have HR24 := (show Hid (X9.heap[X8.heap.size]? = some (.cells (hsc A) 25 (0, 0))) from Lib.hid (by rw [← hX]; exact setRow_heap _ X8.heap.size _ (hsc A) 25 (0, 0) (heap_alloc_new X8 _))); have HX9n := (show Hid (Below X8.heap.size X8 X9) from Lib.hid (by rw [← hX]; exact below_setRow (below_alloc (Below.refl X8.heap.size X8) _) (Nat.le_refl _) (hsc A))); have HX9 := Lib.hid (HX8.out.trans (HX9n.out.mono HX8.out.size)); clear hX; have HR21c := Lib.hid (blk_same HR21b.out HX9n.out); have HR7c := Lib.hid (blk_same HR7b.out HX9n.out); have HR23c := Lib.hid (blk_same HR23b.out HX9n.out); have o8 : X9.cell? ⟨w.heap.size + 1, 8, none⟩ = some (.string odd.rest) := (blk_cell HR7c.out 8).trans rfl; have z8 : X9.cell? ⟨X8.heap.size, 8, none⟩ = some (.string A.rest) := (blk_cell HR24.out 8).trans rfl; have zf8 := blk_frozen HR24.out 8)
              | (generalize hX10 : World.setCell X9 _ _ = X10; have HR24b := (show Hid (X10.heap[X8.heap.size]? = some (.cells (hsc ⟨A.H, odd.rest, A.many⟩) 25 (0, 0))) from Lib.hid (by rw [← hX10]; exact blk_set HR24.out 8 _)); have HG10 := (show Hid (Gb X8.heap.size X9 X10) from Lib.hid (by rw [← hX10]; exact gb_set _ _ _)); have HR21d := Lib.hid (gb_same HG10.out HR21c.out (Nat.ne_of_lt (blk_lt HR21b.out))); have HR7d := Lib.hid (gb_same HG10.out HR7c.out (Nat.ne_of_lt (blk_lt HR7b.out))); have HR23d := Lib.hid (gb_same HG10.out HR23c.out (Nat.ne_of_lt (blk_lt HR23b.out))); have HX10 := Lib.hid (HX9.out.trans (gb_toBelow HG10.out HX9.out.size HX8.out.size)); with_reducible refine wpList_load_row rfl 25 (.tmp 21) rfl Wg.heap.size rfl 25 (hsc A) (0, 0) _ HR21d.out Tryd.underlying25 rfl (by kernel_rfl) ?_; clear hX10 o8 z8 zf8)
              | (with_reducible refine wpList_store_row rfl 25 (.tmp 25) (.tmp 127) rfl X10.heap.size (hsc A) rfl (by first | rfl | kernel_rfl) 25 _ (heap_alloc_new X10 _) (by kernel_rfl) (by first | rfl | kernel_rfl) (by first | rfl | kernel_rfl) ?_; generalize hX : World.setRow _ X10.heap.size (hsc A) = X11; have HR25 := (show Hid (X11.heap[X10.heap.size]? = some (.cells (hsc A) 25 (0, 0))) from Lib.hid (by rw [← hX]; exact setRow_heap _ X10.heap.size _ (hsc A) 25 (0, 0) (heap_alloc_new X10 _))); have HX11n := (show Hid (Below X10.heap.size X10 X11) from Lib.hid (by rw [← hX]; exact below_setRow (below_alloc (Below.refl X10.heap.size X10) _) (Nat.le_refl _) (hsc A))); have HX11 := Lib.hid (HX10.out.trans (HX11n.out.mono HX10.out.size)); clear hX; have HR21e := Lib.hid (blk_same HR21d.out HX11n.out); have HR7e := Lib.hid (blk_same HR7d.out HX11n.out); have HR23e := Lib.hid (blk_same HR23d.out HX11n.out); have HR24e := Lib.hid (blk_same HR24b.out HX11n.out); have p0 : X11.cell? ⟨w.heap.size + 1, 0, none⟩ = some (.int .u32 (u odd.H.a)) := (blk_cell HR7e.out 0).trans rfl; have p1 : X11.cell? ⟨w.heap.size + 1, 1, none⟩ = some (.int .u32 (u odd.H.b)) := (blk_cell HR7e.out 1).trans rfl; have p2 : X11.cell? ⟨w.heap.size + 1, 2, none⟩ = some (.int .u32 (u odd.H.c)) := (blk_cell HR7e.out 2).trans rfl; have p3 : X11.cell? ⟨w.heap.size + 1, 3, none⟩ = some (.int .u32 (u odd.H.d)) := (blk_cell HR7e.out 3).trans rfl; have p4 : X11.cell? ⟨w.heap.size + 1, 4, none⟩ = some (.int .u32 (u odd.H.e)) := (blk_cell HR7e.out 4).trans rfl; have p5 : X11.cell? ⟨w.heap.size + 1, 5, none⟩ = some (.int .u32 (u odd.H.f)) := (blk_cell HR7e.out 5).trans rfl; have p6 : X11.cell? ⟨w.heap.size + 1, 6, none⟩ = some (.int .u32 (u odd.H.g)) := (blk_cell HR7e.out 6).trans rfl; have p7 : X11.cell? ⟨w.heap.size + 1, 7, none⟩ = some (.int .u32 (u odd.H.h)) := (blk_cell HR7e.out 7).trans rfl; have q0 : X11.cell? ⟨X10.heap.size, 0, none⟩ = some (.int .u32 (u A.H.a)) := (blk_cell HR25.out 0).trans rfl; have q1 : X11.cell? ⟨X10.heap.size, 1, none⟩ = some (.int .u32 (u A.H.b)) := (blk_cell HR25.out 1).trans rfl; have q2 : X11.cell? ⟨X10.heap.size, 2, none⟩ = some (.int .u32 (u A.H.c)) := (blk_cell HR25.out 2).trans rfl; have q3 : X11.cell? ⟨X10.heap.size, 3, none⟩ = some (.int .u32 (u A.H.d)) := (blk_cell HR25.out 3).trans rfl; have q4 : X11.cell? ⟨X10.heap.size, 4, none⟩ = some (.int .u32 (u A.H.e)) := (blk_cell HR25.out 4).trans rfl; have q5 : X11.cell? ⟨X10.heap.size, 5, none⟩ = some (.int .u32 (u A.H.f)) := (blk_cell HR25.out 5).trans rfl; have q6 : X11.cell? ⟨X10.heap.size, 6, none⟩ = some (.int .u32 (u A.H.g)) := (blk_cell HR25.out 6).trans rfl; have q7 : X11.cell? ⟨X10.heap.size, 7, none⟩ = some (.int .u32 (u A.H.h)) := (blk_cell HR25.out 7).trans rfl; have f0 := blk_frozen HR25.out 0; have f1 := blk_frozen HR25.out 1; have f2 := blk_frozen HR25.out 2; have f3 := blk_frozen HR25.out 3; have f4 := blk_frozen HR25.out 4; have f5 := blk_frozen HR25.out 5; have f6 := blk_frozen HR25.out 6; have f7 := blk_frozen HR25.out 7))
            generalize hX12 : World.setCell _ ⟨X10.heap.size, 7, none⟩ _ = X12
            have HG12 := (show Hid (Gb X10.heap.size X11 X12) from Lib.hid (by rw [← hX12]; exact gb_put8 _))
            have HR25b := (show Hid (X12.heap[X10.heap.size]? = some (.cells (hsc ⟨odd.H, A.rest, A.many⟩) 25 (0, 0))) from Lib.hid (by rw [← hX12]; exact put8of10 (show X11.heap[X10.heap.size]? = some (.cells #[.int .u32 (u A.H.a), .int .u32 (u A.H.b), .int .u32 (u A.H.c), .int .u32 (u A.H.d), .int .u32 (u A.H.e), .int .u32 (u A.H.f), .int .u32 (u A.H.g), .int .u32 (u A.H.h), .string A.rest, .int .i64 (A.many)] 25 (0, 0)) from HR25.out)))
            have HR21f := Lib.hid (gb_same HG12.out HR21e.out (Nat.ne_of_lt (blk_lt HR21d.out)))
            have HR7f := Lib.hid (gb_same HG12.out HR7e.out (Nat.ne_of_lt (blk_lt HR7d.out)))
            have HR23f := Lib.hid (gb_same HG12.out HR23e.out (Nat.ne_of_lt (blk_lt HR23d.out)))
            have HR24f := Lib.hid (gb_same HG12.out HR24e.out (Nat.ne_of_lt (blk_lt HR24b.out)))
            have HX12 := Lib.hid (HX11.out.trans (gb_toBelow HG12.out HX11.out.size HX10.out.size))
            clear hX12 p0 p1 p2 p3 p4 p5 p6 p7 q0 q1 q2 q3 q4 q5 q6 q7 f0 f1 f2 f3 f4 f5 f6 f7
            obtain ⟨zn, hzn, hzn1⟩ : ∃ n : Nat, pickN odd.many 16380 = (n : Int) ∧ n < 16380 := ⟨(pickN odd.many 16380).toNat, by unfold pickN; omega, by unfold pickN; omega⟩
            have hpz := fun W => pick_calls odd.many 16380 W ho0 ho1 (by omega) (by omega)
            rw [hzn] at hpz
            have HPZ : Hid (∀ p : XB.In (Below X12.heap.size X12), Calls Tryd.prog 22 #[.int .i64 odd.many, .int .i64 16380] p.w fun e w' => e = .returned (.int .i64 (zn : Int)) ∧ p.w = w') := Lib.hid (fun p => (hpz p.w).mono (by rintro e w' ⟨rfl, rfl⟩; exact ⟨rfl, rfl⟩))
            clear hpz hzn
            have t1 : IntKind.i64.wrap (64 * (zn : Int)) = 64 * (zn : Int) := IntWalk.i64_in _ (by omega)
            have t2 : IntKind.i64.wrap (A.many + 64 * (zn : Int)) = A.many + 64 * (zn : Int) := IntWalk.i64_in _ (by omega)
            have d1 : ∀ p : XB.In (Below X12.heap.size X12), p.w.cell? ⟨Wg.heap.size, 9, none⟩ = some (.int .i64 A.many) := fun p => (blk_cell (blk_same HR21f.out p.h) 9).trans rfl
            have d2 : ∀ p : XB.In (Below X12.heap.size X12), p.w.cell? ⟨w.heap.size + 1, 9, none⟩ = some (.int .i64 odd.many) := fun p => (blk_cell (blk_same HR7f.out p.h) 9).trans rfl
            haveI hne : Nonempty (XB.In (Below X12.heap.size X12)) := ⟨⟨X12.drew, below_drew1 (Below.refl _ _)⟩⟩
            refine XB.region_tail (fun w' => ∃ p : XB.In (Below X12.heap.size X12), w' = p.w) 8 (by kernel_rfl) (by kernel_rfl) ⟨⟨X12.drew, below_drew1 (Below.refl _ _)⟩, rfl⟩ ?_
            simp only [List.take_succ_cons, List.take_zero, List.drop_succ_cons, List.drop_zero]
            iterate 8 quiet_step ((go_at_call 22; with_reducible exact XB.in_same (HPZ.out _)))
            refine wpQuiet_nil ?_
            rintro Y ⟨⟨_, hY⟩, rfl⟩
            have HY := Lib.hid hY
            have HX12Y := Lib.hid (HX12.out.trans (hY.mono HX12.out.size))
            have HR25c := Lib.hid (blk_same HR25b.out hY)
            have HR21g := Lib.hid (blk_same HR21f.out hY)
            have HR7g := Lib.hid (blk_same HR7f.out hY)
            have HR23g := Lib.hid (blk_same HR23f.out hY)
            have HR24g := Lib.hid (blk_same HR24f.out hY)
            clear hY d1 d2 hne t1 t2
            have z9 : Y.cell? ⟨X10.heap.size, 9, none⟩ = some (.int .i64 A.many) := (blk_cell HR25c.out 9).trans rfl
            have zf9 := blk_frozen HR25c.out 9
            have HTOK := trivial
            go_wp2_with (first
              | (have := HTOK; generalize hX13 : World.setCell Y _ _ = X13; have HG13 := (show Hid (Gb X10.heap.size Y X13) from Lib.hid (by rw [← hX13]; exact gb_set _ _ _)); have L25 := (show Hid (X13.heap[X10.heap.size]? = some (.cells (hsc ⟨odd.H, A.rest, A.many + 64 * (zn : Int)⟩) 25 (0, 0))) from Lib.hid (by rw [← hX13]; exact blk_set HR25c.out 9 _)); have L21 := (show Hid (X13.heap[Wg.heap.size]? = some (.cells (hsc A) 25 (0, 0))) from Lib.hid (gb_same HG13.out HR21g.out (Nat.ne_of_lt (blk_lt HR21d.out)))); have L7 := (show Hid (X13.heap[w.heap.size + 1]? = some (.cells (hsc odd) 25 (0, 0))) from Lib.hid (gb_same HG13.out HR7g.out (Nat.ne_of_lt (blk_lt HR7d.out)))); have L23 := (show Hid (X13.heap[Wk.heap.size]? = some (.cells (hsc ⟨A.H, A.rest, odd.many⟩) 25 (0, 0))) from Lib.hid (gb_same HG13.out HR23g.out (Nat.ne_of_lt (blk_lt HR23d.out)))); have L24 := (show Hid (X13.heap[X8.heap.size]? = some (.cells (hsc ⟨A.H, odd.rest, A.many⟩) 25 (0, 0))) from Lib.hid (gb_same HG13.out HR24g.out (Nat.ne_of_lt (blk_lt HR24b.out)))); have HX13 := Lib.hid (HX12Y.out.trans (gb_toBelow HG13.out HX12Y.out.size HX10.out.size)); with_reducible refine wpList_load_row rfl 25 (.tmp 21) rfl Wg.heap.size rfl 25 ((hsc A)) (0, 0) _ L21.out Tryd.underlying25 rfl (by kernel_rfl) ?_; clear hX13 z9 zf9 HTOK this)
              | (with_reducible refine wpList_load_row rfl 25 (.tmp 23) rfl Wk.heap.size rfl 25 ((hsc ⟨A.H, A.rest, odd.many⟩)) (0, 0) _ L23.out Tryd.underlying25 rfl (by kernel_rfl) ?_)
              | (with_reducible refine wpList_load_row rfl 25 (.tmp 24) rfl X8.heap.size rfl 25 ((hsc ⟨A.H, odd.rest, A.many⟩)) (0, 0) _ L24.out Tryd.underlying25 rfl (by kernel_rfl) ?_)
              | (with_reducible refine wpList_load_row rfl 25 (.tmp 25) rfl X10.heap.size rfl 25 ((hsc ⟨odd.H, A.rest, A.many + 64 * (zn : Int)⟩)) (0, 0) _ L25.out Tryd.underlying25 rfl (by kernel_rfl) ?_)
              | (with_reducible refine wpList_load_row rfl 25 (.tmp 7) rfl (w.heap.size + 1) rfl 25 ((hsc odd)) (0, 0) _ L7.out Tryd.underlying25 rfl (by kernel_rfl) ?_; refine wpList_five rfl _ rfl A ⟨A.H, A.rest, odd.many⟩ ⟨A.H, odd.rest, A.many⟩ ⟨odd.H, A.rest, A.many + 64 * (zn : Int)⟩ odd (by first | rfl | kernel_rfl) ?_; generalize hX14 : World.alloc X13 _ = X14; have LF := (show Hid (X14.heap[X13.heap.size]? = some (.cells (five A ⟨A.H, A.rest, odd.many⟩ ⟨A.H, odd.rest, A.many⟩ ⟨odd.H, A.rest, A.many + 64 * (zn : Int)⟩ odd) 25 (0, 0))) from Lib.hid (by rw [← hX14]; exact heap_alloc_new X13 _)); have HX14 := Lib.hid (show Below w.heap.size w X14 by rw [← hX14]; exact below_alloc HX13.out _); clear hX14))
            go_loopw [146] (fun v X => ∃ j : Nat, j ≤ 5 ∧ v = .int .i64 (j : Int) ∧ Below X14.heap.size X14 X) (fun v _ => 5 - (intOf v).toNat)
            case atStart => exact ⟨0, by omega, rfl, Below.refl _ _⟩
            case round =>
              obtain ⟨j, hj, rfl, hXj⟩ := hrel
              have HBl := Lib.hid (HX14.out.trans (hXj.mono HX14.out.size))
              have HF5 := Lib.hid (blk_same LF.out hXj)
              by_cases hlt5 : j < 5
              · obtain ⟨xx, hxx, m0, m1⟩ := five_get HF5.out j hlt5 (fun x => -9223372036854775808 ≤ x.many ∧ x.many ≤ 9223372036854775807) ⟨by omega, by omega⟩ ⟨ho0, ho1⟩ ⟨by dsimp only; omega, by dsimp only; omega⟩ ⟨by dsimp only; omega, by dsimp only; omega⟩ ⟨ho0, ho1⟩
                refine d4_round j X13.heap.size hlt5 xx y wr (HG.out.below HBl.out) hxx hys m0 m1 ?_
                intro v27 v28 v29 v30 v31 v32 v33 v34 v35 v147 v148 v149 v150 v151 v152 v153 v154 v155 v156 v157 v158 v159 v160 v161 v162 v163 v164 v165 v166 v167 v168 v169 v170 v171 v172 v173 v174 v175 v176 v177 v178 v179 v180 v181 v182 v183 v184 v185 v186 v187 v188 v189 v190 v191 v192 v193 v194 v195 v196 v197 v198 v199 v200 v201 v202 W' hB'
                refine ⟨⟨_, _, _, _, _, _, _, _, _, _, _, _, _, _, _, _, _, _, _, _, _, _, _, _, _, _, _, _, _, _, _, _, _, _, _, _, _, _, _, _, _, _, _, _, _, _, _, _, _, _, _, _, _, _, _, _, _, _, _, _, _, _, _, _, _, _, _, ⟨j + 1, by omega, congrArg (Value.int .i64) (by omega), hXj.trans (hB'.mono hXj.size)⟩, rfl⟩, ?_⟩
                simp [intOf]; omega
              · obtain rfl : j = 5 := by omega
                have e5 : ((5 : Nat) : Int) = 5 := rfl
                rw [e5]
                clear e5
                go_wp2_with (first
                  | (go_at_call 27; with_reducible refine (HSU.out _ (HG.out.below HBl.out)).mono ?_; rintro e Wm ⟨rfl, hb⟩; have HBmn := Lib.hid hb; have HBm := Lib.hid (HBl.out.trans (hb.mono HBl.out.size)); clear hb)
                  | (go_at_call 28; with_reducible refine (HSR.out _).mono ?_; rintro e Wn ⟨rfl, hb⟩; have HBnn := Lib.hid hb; have HBn := Lib.hid (HBm.out.trans (hb.mono HBm.out.size)); clear hb))
                go_ret
                exact ⟨rfl, HBn.out⟩
end Go.Proofs.YtajaobebcmlhaaaDoor.Pr
