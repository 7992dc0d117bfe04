/-
  The law MacTells: walked. Condition: the words of the rounds lie where the program has them; the numbers are int's.
-/
import Derived.Test.YtajaobebcmlhaaaDoorRefDer
import Derived.Test.YtajaobebcmlhaaaDoorBegins
import Derived.Test.YtajaobebcmlhaaaDoorLong
namespace Go.Proofs.YtajaobebcmlhaaaDoor.Pr
open Go.RowKit Go.Shelf Go.Proofs.YtajaobebcmlhaaaDoor.XB Go.Proofs.Sha Go.Proofs.YtajaobebcmlhaaaDoorW.PrintWords
attribute [local go_sem] Oper.semAt_some
set_option linter.unusedVariables false
set_option linter.unusedSimpArgs false
set_option maxRecDepth 100000
theorem mac_too_long (k : ByteArray) (h : k.size ≤ 1000) : macH k (zs 1048513) = (ByteArray.empty, 2) := by
  unfold macH; rw [if_neg (by omega), if_pos (by rw [zs_size]; omega)]
set_option maxHeartbeats 8000000 in
theorem mtells_calls (key name s : ByteArray) (c d : Int) (w : World) (hG : Tbl w) (hc0 : -9223372036854775808 ≤ c) (hc1 : c ≤ 9223372036854775807) (hd0 : -9223372036854775808 ≤ d) (hd1 : d ≤ 9223372036854775807) :
    Calls Tryd.prog 8 #[.string key, .string name, .string s, .int .i64 c, .int .i64 d] w fun e w' => e = .returned (.bool true) ∧ Below w.heap.size w w' := by
  have HG := Lib.hid hG
  clear hG
  have hm0 : (0 : Int) ≤ min (key.size : Int) 300 := by omega
  have hm1 : min (key.size : Int) 300 ≤ (key.size : Int) := by omega
  have hn0 : (0 : Int) ≤ min (name.size : Int) 300 := by omega
  have hn1 : min (name.size : Int) 300 ≤ (name.size : Int) := by omega
  have hs0 : (0 : Int) ≤ min (s.size : Int) 300 := by omega
  have hs1 : min (s.size : Int) 300 ≤ (s.size : Int) := by omega
  have hks : (key.extract 0 (min (key.size : Int) 300).toNat).size ≤ 300 := by rw [ByteArray.size_extract]; omega
  have hms : (name.extract 0 (min (name.size : Int) 300).toNat).size ≤ 300 := by rw [ByteArray.size_extract]; omega
  have hxs : (s.extract 0 (min (s.size : Int) 300).toNat).size ≤ 300 := by rw [ByteArray.size_extract]; omega
  obtain ⟨p, hp, hp1⟩ : ∃ p : Nat, pickN d 4 = (p : Int) ∧ p < 4 := ⟨(pickN d 4).toNat, by unfold pickN; omega, by unfold pickN; omega⟩
  have hpc := fun W => pick2_calls d 4 W hd0 hd1 (by omega) (by omega)
  rw [hp] at hpc
  have HPC := Lib.hid hpc
  clear hpc hp
  obtain ⟨a, ha⟩ : ∃ a : Nat, (999 : Int) + (p : Int) = (a : Int) := ⟨999 + p, by omega⟩
  have hm := run_mk a (by omega)
  have kv := fun (W : World) (g : Nat) (q : W.heap[g]? = some (.cells (zc a) 5 (0, 0))) => run_cv a W g (0, 0) q
  have f0 : ∀ (W : World) (o : Obj), (W.alloc o).heap = W.heap.push o := fun _ _ => rfl
  have f5 : ∀ (xs : Array Obj) (o : Obj) (i : Nat), (xs.push o)[i]? = if i = xs.size then some o else xs[i]? := fun _ _ _ => Array.getElem?_push
  go_enter Tryd.func8, Tryd.ntmps8
  go_wp2_with (first
    | (go_at_call 29; with_reducible refine (awake2_calls _ HG.out).mono ?_; rintro e W1 ⟨rfl, hb⟩; have HB1 := Lib.hid hb; clear hb)
    | (go_at_call 30; with_reducible refine (HPC.out _).mono ?_; rintro e W2 ⟨rfl, rfl⟩))
  generalize key.extract 0 (min (key.size : Int) 300).toNat = k at *
  generalize name.extract 0 (min (name.size : Int) 300).toNat = m at *
  generalize s.extract 0 (min (s.size : Int) 300).toNat = x at *
  clear hm0 hm1 hn0 hn1 hs0 hs1 hm kv f0 f5
  generalize hW0 : World.alloc (World.alloc W2 _) _ = W0
  have F0 : W0.heap[W2.heap.size + 1]? = some (.cells #[.string k, .string (zs a), .string ⟨#[]⟩] 9 (0, 0)) := by rw [← hW0]; exact heap_alloc2_new W2 _ _
  have FB : Below w.heap.size w W0 := by rw [← hW0]; exact below_alloc (below_alloc HB1.out _) _
  have HF0 := Lib.hid F0
  have HFB := Lib.hid FB
  generalize hg : W2.heap.size + 1 = g at *
  clear hW0 F0 FB hg
  have hpq : ∃ q : Nat, pickN c 100 = (q : Int) ∧ q < 100 := ⟨(pickN c 100).toNat, by unfold pickN; omega, by unfold pickN; omega⟩
  obtain ⟨q, hq, hq1⟩ := hpq
  have hpr : ∃ r : Nat, pickN c 70 = (r : Int) ∧ r < 70 := ⟨(pickN c 70).toNat, by unfold pickN; omega, by unfold pickN; omega⟩
  obtain ⟨r, hr, hr1⟩ := hpr
  have hqc := fun W => pick2_calls c 100 W hc0 hc1 (by omega) (by omega)
  have hrc := fun W => pick2_calls c 70 W hc0 hc1 (by omega) (by omega)
  rw [hq] at hqc
  rw [hr] at hrc
  have HQC := Lib.hid hqc
  have HRC := Lib.hid hrc
  clear hqc hrc hq hr
  have HDP := Lib.hid (fun W (g : Tbl W) => derive_calls k (zs a) (r : Int) W g (by omega) (by omega))
  have HDR := Lib.hid (fun W => refder_calls k (zs a) (r : Int) W)
  generalize derH k (zs a) (r : Int) = dl at *
  obtain ⟨dl, dle⟩ := dl
  go_loopw [65] (fun v X => ∃ i : Nat, i ≤ 3 ∧ v = .int .i64 (i : Int) ∧ X.heap[g]? = some (.cells #[.string k, .string (zs a), .string ⟨#[]⟩] 9 (0, 0)) ∧ Below w.heap.size w X)
    (fun v _ => 3 - (intOf v).toNat)
  case atStart => exact ⟨0, by omega, rfl, HF0.out, HFB.out⟩
  case round =>
    obtain ⟨i, hi, rfl, hT, hB⟩ := hrel
    by_cases hlt : i < 3
    · have i3 : (i : Int) < 3 := by omega
      obtain ⟨y, hy⟩ : ∃ y, wr.cell? ⟨g, i, none⟩ = some (.string y) := by
        have h : i = 0 ∨ i = 1 ∨ i = 2 := by omega
        rcases h with rfl | rfl | rfl
        · exact ⟨_, (blk_cell hT 0).trans rfl⟩
        · exact ⟨_, (blk_cell hT 1).trans rfl⟩
        · exact ⟨_, (blk_cell hT 2).trans rfl⟩
      have HM := Lib.hid (fun W (q : Tbl W) => mac_calls y x W q)
      have HMR := Lib.hid (fun W => refmac_calls y x W)
      have HD := Lib.hid (fun (z : Int) (h0 : -9223372036854775808 ≤ z) (h1 : z ≤ 9223372036854775807) W (q : Tbl W) => derive_calls y m z W q h0 h1)
      have HR := Lib.hid (fun (z : Int) W => refder_calls y m z W)
      generalize macH y x = mm at *
      obtain ⟨mm, mme⟩ := mm
      have HT := Lib.hid hT
      have HB := Lib.hid hB
      clear hT hB
      obtain ⟨V, hV⟩ : ∃ V, V = wr := ⟨_, rfl⟩
      subst hV
      go_wp2_with (first
        | (go_at_call 31; with_reducible refine (HM.out _ (HG.out.below HB.out)).mono ?_; rintro e W3 ⟨rfl, hb⟩; have HB3 := Lib.hid hb; clear hb)
        | (go_at_call 32; with_reducible refine (HMR.out _).mono ?_; rintro e W4 ⟨rfl, hb⟩; have HB4 := Lib.hid (HB3.out.trans (hb.mono HB3.out.size)); clear hb)
        | (go_at_call 30; with_reducible refine (HQC.out _).mono ?_; rintro e W5 ⟨rfl, rfl⟩))
      generalize hW6 : World.alloc W5 _ = W6
      have G0 : W6.heap[W5.heap.size]? = some (.cells #[.int .i64 c, .int .i64 (q : Int)] 3 (0, 0)) := by rw [← hW6]; exact heap_alloc_new W5 _
      have GB : Below V.heap.size V W6 := by rw [← hW6]; exact below_alloc HB4.out _
      generalize W5.heap.size = g2 at *
      clear hW6
      go_loopw [94] (fun v X => ∃ j : Nat, j ≤ 2 ∧ v = .int .i64 (j : Int) ∧ X.heap[g2]? = some (.cells #[.int .i64 c, .int .i64 (q : Int)] 3 (0, 0)) ∧ Below V.heap.size V X)
        (fun v _ => 2 - (intOf v).toNat)
      case atStart => exact ⟨0, by omega, rfl, G0, GB⟩
      case round =>
        obtain ⟨j, hj, rfl, hT2, hX⟩ := hrel
        by_cases hlt2 : j < 2
        · have j2 : (j : Int) < 2 := by omega
          obtain ⟨z, hz, hz0, hz1⟩ : ∃ z, wr.cell? ⟨g2, j, none⟩ = some (.int .i64 z) ∧ -9223372036854775808 ≤ z ∧ z ≤ 9223372036854775807 := by
            have h : j = 0 ∨ j = 1 := by omega
            rcases h with rfl | rfl
            · exact ⟨_, (blk_cell hT2 0).trans rfl, hc0, hc1⟩
            · exact ⟨_, (blk_cell hT2 1).trans rfl, by omega, by omega⟩
          have HDz := Lib.hid (HD.out z hz0 hz1)
          have HRz := Lib.hid (HR.out z)
          generalize derH y m z = dd at *
          obtain ⟨dd, dde⟩ := dd
          have HT2 := Lib.hid hT2
          have HX := Lib.hid (HB.out.trans (hX.mono HB.out.size))
          have HX0 := Lib.hid hX
          clear hT2 hX
          go_wp2_with (first
            | (go_at_call 33; with_reducible refine (HDz.out _ (HG.out.below HX.out)).mono ?_; rintro e W7 ⟨rfl, hb⟩; have HB7 := Lib.hid hb; clear hb)
            | (go_at_call 34; with_reducible refine (HRz.out _).mono ?_; rintro e W8 ⟨rfl, hb⟩; have HB8 := Lib.hid (HB7.out.trans (hb.mono HB7.out.size)); clear hb)
            | (go_at_call 30; with_reducible refine (HRC.out _).mono ?_; rintro e W9 ⟨rfl, hb9⟩; subst hb9)
            | (go_at_call 33; with_reducible refine (HDP.out _ (HG.out.below (HX.out.trans (HB8.out.mono HX.out.size)))).mono ?_; rintro e Wa ⟨rfl, hb⟩; have HBa := Lib.hid (HB8.out.trans (hb.mono HB8.out.size)); clear hb)
            | (go_at_call 34; with_reducible refine (HDR.out _).mono ?_; rintro e Wb ⟨rfl, hb⟩; have HBb := Lib.hid (HBa.out.trans (hb.mono HBa.out.size)); clear hb))
          go_roundw
          case rel => exact ⟨j + 1, by omega, congrArg (Value.int .i64) (by omega), blk_same HT2.out HBb.out, HX0.out.trans (HBb.out.mono HX0.out.size)⟩
          case measure => simp [intOf]; omega
        · obtain rfl : j = 2 := by omega
          have hT3 := blk_same HT.out hX
          have hB3 := HB.out.trans (hX.mono HB.out.size)
          have e2 : ((2 : Nat) : Int) = 2 := rfl
          rw [e2]
          clear e2
          go_wp2
          go_roundw
          case rel => exact ⟨i + 1, by omega, congrArg (Value.int .i64) (by omega), hT3, hB3⟩
          case measure => simp [intOf]; omega
    · obtain rfl : i = 3 := by omega
      have e3 : ((3 : Nat) : Int) = 3 := rfl
      rw [e3]
      clear e3
      have HL : Hid (∀ W, Tbl W → Calls Tryd.prog 31 #[.string k, .string (zs 1048513)] W fun e w' => e = .returned (.tuple #[.string ByteArray.empty, .int .i64 2]) ∧ Below W.heap.size W w') := Lib.hid (fun W g => by have := mac_calls k (zs 1048513) W g; rw [mac_too_long k (by omega)] at this; exact this)
      have hm := run_mk 1048513 (by omega)
      have kv := fun (W : World) (g : Nat) (q : W.heap[g]? = some (.cells (zc 1048513) 5 (0, 0))) => run_cv 1048513 W g (0, 0) q
      have f0 : ∀ (W : World) (o : Obj), (W.alloc o).heap = W.heap.push o := fun _ _ => rfl
      have f5 : ∀ (xs : Array Obj) (o : Obj) (i : Nat), (xs.push o)[i]? = if i = xs.size then some o else xs[i]? := fun _ _ _ => Array.getElem?_push
      have HB := Lib.hid hB
      clear hT hB
      generalize zs 1048513 = zl at *
      generalize zc 1048513 = zcl at *
      have hm' : ∀ W, Sem.run Tryd.prog (Instr.makeSlice 44 (.int .i64 1048513) (.int .i64 1048513)) W = .ok (.slice (some ⟨W.heap.size, 0, none⟩) 1048513 1048513) (W.alloc (.cells zcl 5)) := fun W => hm W
      clear hm
      go_wp2_with (first
        | (go_at_call 31; refine (HL.out _ (HG.out.below (two_below HB.out))).mono ?_; rintro e W4 ⟨rfl, hb⟩; have HB4 := Lib.hid (two_chain HB.out hb); clear hb))
      generalize hWs : World.alloc W4 _ = Ws
      have G0 : Ws.heap[W4.heap.size]? = some (.cells #[.string k, .string m, .string k, .string k, .string k, .string x, .string (k ++ ⟨#[97]⟩), .string (k ++ ⟨#[98]⟩), .string (x ++ k), .string (x ++ m)] 50 (0, 0)) := by rw [← hWs]; exact heap_alloc_new W4 _
      have GB : Below w.heap.size w Ws := by rw [← hWs]; exact below_alloc HB4.out _
      generalize W4.heap.size = g3 at *
      clear hWs kv f0 f5 hm'
      have s1 : (k ++ ⟨#[97]⟩ : ByteArray).size ≤ 301 := by rw [ByteArray.size_append, one_size]; omega
      have s2 : (x ++ k).size ≤ 600 := by rw [ByteArray.size_append]; omega
      go_loopw [178] (fun v X => ∃ j : Nat, j ≤ 5 ∧ v = .int .i64 (j : Int) ∧ X.heap[g3]? = some (.cells #[.string k, .string m, .string k, .string k, .string k, .string x, .string (k ++ ⟨#[97]⟩), .string (k ++ ⟨#[98]⟩), .string (x ++ k), .string (x ++ m)] 50 (0, 0)) ∧ Below w.heap.size w X)
        (fun v _ => 5 - (intOf v).toNat)
      case atStart => exact ⟨0, by omega, rfl, G0, GB⟩
      case round =>
        obtain ⟨j, hj, rfl, hT, hB⟩ := hrel
        have HT := Lib.hid hT
        have HB := Lib.hid hB
        by_cases hlt : j < 5
        · have hjj : j = 0 ∨ j = 1 ∨ j = 2 ∨ j = 3 ∨ j = 4 := by omega
          rcases hjj with rfl | rfl | rfl | rfl | rfl
          · obtain ⟨p, q, hp, hq, hs⟩ : ∃ p q : ByteArray, wr.cell? ⟨g3, 0, none⟩ = some (.string p) ∧ wr.cell? ⟨g3, 1, none⟩ = some (.string q) ∧ p.size ≤ 1000 := ⟨_, _, (blk_cell hT 0).trans rfl, (blk_cell hT 1).trans rfl, by omega⟩
            have HS := Lib.hid (fun W => macsame_calls p q W (by omega))
            have HSR := Lib.hid (fun W => refsame_calls p q W)
            generalize sameH p q = sm at *
            obtain ⟨sm, sme⟩ := sm
            clear hT hB
            go_wp2_with (first
              | (go_at_call 35; with_reducible refine (HS.out _).mono ?_; rintro e W7 ⟨rfl, hb⟩; have HB7 := Lib.hid hb; have G7 := blk_same (heap_alloc_new wr _) hb; have y0 := (blk_cell G7 0).trans rfl; have y1 := (blk_cell G7 1).trans rfl; clear hb)
              | (go_at_call 36; with_reducible refine (HSR.out _).mono ?_; rintro e W8 ⟨rfl, hb⟩; have HB8 := Lib.hid (HB7.out.trans (hb.mono HB7.out.size)); clear hb))
            have b9 : Below wr.heap.size wr W8 := (below_alloc (Below.refl _ wr) _).trans (HB8.out.mono (by simp only [World.size_alloc]; omega))
            go_roundw
            case rel => exact ⟨_, by decide, rfl, blk_same HT.out b9, HB.out.trans (b9.mono HB.out.size)⟩
            case measure => simp [intOf]
          · obtain ⟨p, q, hp, hq, hs⟩ : ∃ p q : ByteArray, wr.cell? ⟨g3, 2, none⟩ = some (.string p) ∧ wr.cell? ⟨g3, 3, none⟩ = some (.string q) ∧ p.size ≤ 1000 := ⟨_, _, (blk_cell hT 2).trans rfl, (blk_cell hT 3).trans rfl, by omega⟩
            have HS := Lib.hid (fun W => macsame_calls p q W (by omega))
            have HSR := Lib.hid (fun W => refsame_calls p q W)
            generalize sameH p q = sm at *
            obtain ⟨sm, sme⟩ := sm
            clear hT hB
            go_wp2_with (first
              | (go_at_call 35; with_reducible refine (HS.out _).mono ?_; rintro e W7 ⟨rfl, hb⟩; have HB7 := Lib.hid hb; have G7 := blk_same (heap_alloc_new wr _) hb; have y0 := (blk_cell G7 0).trans rfl; have y1 := (blk_cell G7 1).trans rfl; clear hb)
              | (go_at_call 36; with_reducible refine (HSR.out _).mono ?_; rintro e W8 ⟨rfl, hb⟩; have HB8 := Lib.hid (HB7.out.trans (hb.mono HB7.out.size)); clear hb))
            have b9 : Below wr.heap.size wr W8 := (below_alloc (Below.refl _ wr) _).trans (HB8.out.mono (by simp only [World.size_alloc]; omega))
            go_roundw
            case rel => exact ⟨_, by decide, rfl, blk_same HT.out b9, HB.out.trans (b9.mono HB.out.size)⟩
            case measure => simp [intOf]
          · obtain ⟨p, q, hp, hq, hs⟩ : ∃ p q : ByteArray, wr.cell? ⟨g3, 4, none⟩ = some (.string p) ∧ wr.cell? ⟨g3, 5, none⟩ = some (.string q) ∧ p.size ≤ 1000 := ⟨_, _, (blk_cell hT 4).trans rfl, (blk_cell hT 5).trans rfl, by omega⟩
            have HS := Lib.hid (fun W => macsame_calls p q W (by omega))
            have HSR := Lib.hid (fun W => refsame_calls p q W)
            generalize sameH p q = sm at *
            obtain ⟨sm, sme⟩ := sm
            clear hT hB
            go_wp2_with (first
              | (go_at_call 35; with_reducible refine (HS.out _).mono ?_; rintro e W7 ⟨rfl, hb⟩; have HB7 := Lib.hid hb; have G7 := blk_same (heap_alloc_new wr _) hb; have y0 := (blk_cell G7 0).trans rfl; have y1 := (blk_cell G7 1).trans rfl; clear hb)
              | (go_at_call 36; with_reducible refine (HSR.out _).mono ?_; rintro e W8 ⟨rfl, hb⟩; have HB8 := Lib.hid (HB7.out.trans (hb.mono HB7.out.size)); clear hb))
            have b9 : Below wr.heap.size wr W8 := (below_alloc (Below.refl _ wr) _).trans (HB8.out.mono (by simp only [World.size_alloc]; omega))
            go_roundw
            case rel => exact ⟨_, by decide, rfl, blk_same HT.out b9, HB.out.trans (b9.mono HB.out.size)⟩
            case measure => simp [intOf]
          · obtain ⟨p, q, hp, hq, hs⟩ : ∃ p q : ByteArray, wr.cell? ⟨g3, 6, none⟩ = some (.string p) ∧ wr.cell? ⟨g3, 7, none⟩ = some (.string q) ∧ p.size ≤ 1000 := ⟨_, _, (blk_cell hT 6).trans rfl, (blk_cell hT 7).trans rfl, by omega⟩
            have HS := Lib.hid (fun W => macsame_calls p q W (by omega))
            have HSR := Lib.hid (fun W => refsame_calls p q W)
            generalize sameH p q = sm at *
            obtain ⟨sm, sme⟩ := sm
            clear hT hB
            go_wp2_with (first
              | (go_at_call 35; with_reducible refine (HS.out _).mono ?_; rintro e W7 ⟨rfl, hb⟩; have HB7 := Lib.hid hb; have G7 := blk_same (heap_alloc_new wr _) hb; have y0 := (blk_cell G7 0).trans rfl; have y1 := (blk_cell G7 1).trans rfl; clear hb)
              | (go_at_call 36; with_reducible refine (HSR.out _).mono ?_; rintro e W8 ⟨rfl, hb⟩; have HB8 := Lib.hid (HB7.out.trans (hb.mono HB7.out.size)); clear hb))
            have b9 : Below wr.heap.size wr W8 := (below_alloc (Below.refl _ wr) _).trans (HB8.out.mono (by simp only [World.size_alloc]; omega))
            go_roundw
            case rel => exact ⟨_, by decide, rfl, blk_same HT.out b9, HB.out.trans (b9.mono HB.out.size)⟩
            case measure => simp [intOf]
          · obtain ⟨p, q, hp, hq, hs⟩ : ∃ p q : ByteArray, wr.cell? ⟨g3, 8, none⟩ = some (.string p) ∧ wr.cell? ⟨g3, 9, none⟩ = some (.string q) ∧ p.size ≤ 1000 := ⟨_, _, (blk_cell hT 8).trans rfl, (blk_cell hT 9).trans rfl, by omega⟩
            have HS := Lib.hid (fun W => macsame_calls p q W (by omega))
            have HSR := Lib.hid (fun W => refsame_calls p q W)
            generalize sameH p q = sm at *
            obtain ⟨sm, sme⟩ := sm
            clear hT hB
            go_wp2_with (first
              | (go_at_call 35; with_reducible refine (HS.out _).mono ?_; rintro e W7 ⟨rfl, hb⟩; have HB7 := Lib.hid hb; have G7 := blk_same (heap_alloc_new wr _) hb; have y0 := (blk_cell G7 0).trans rfl; have y1 := (blk_cell G7 1).trans rfl; clear hb)
              | (go_at_call 36; with_reducible refine (HSR.out _).mono ?_; rintro e W8 ⟨rfl, hb⟩; have HB8 := Lib.hid (HB7.out.trans (hb.mono HB7.out.size)); clear hb))
            have b9 : Below wr.heap.size wr W8 := (below_alloc (Below.refl _ wr) _).trans (HB8.out.mono (by simp only [World.size_alloc]; omega))
            go_roundw
            case rel => exact ⟨_, by decide, rfl, blk_same HT.out b9, HB.out.trans (b9.mono HB.out.size)⟩
            case measure => simp [intOf]
        · obtain rfl : j = 5 := by omega
          have e5 : ((5 : Nat) : Int) = 5 := rfl
          rw [e5]
          clear e5
          go_wp2
          go_ret
          exact ⟨rfl, HB.out⟩
end Go.Proofs.YtajaobebcmlhaaaDoor.Pr
