/-
  The reference's Compress, and what it stands on. No condition but the ones that each lemma names.
-/
import Derived.Test.YtajaobebcmlhaaaDoorComp
import Derived.Laws.Tables
import Derived.Laws.CopyOwn
namespace Go.Proofs.YtajaobebcmlhaaaDoor.Pr
open Go.RowKit Go.Shelf Go.Proofs.YtajaobebcmlhaaaDoor.XB Go.Proofs.Sha Go.Proofs.YtajaobebcmlhaaaDoorW.PrintWords
set_option linter.unusedVariables false
/-- So many words, told by their places. -/
def vecN (n : Nat) (f : Nat → U) : Array Value := Array.ofFn (n := n) fun i => .int .u32 (u (f i))
theorem vecN_size (n : Nat) (f : Nat → U) : (vecN n f).size = n := by simp [vecN]
theorem vecN_get {n : Nat} (f : Nat → U) {j : Nat} (h : j < n) : (vecN n f)[j]? = some (.int .u32 (u (f j))) := by simp [vecN, h]
theorem vecN_set {n : Nat} (f : Nat → U) {j : Nat} (x : U) (h : j < n) : (vecN n f).setIfInBounds j (.int .u32 (u x)) = vecN n (fun i => if i = j then x else f i) := by
  apply Array.ext_getElem?
  intro i
  rw [Array.getElem?_setIfInBounds, vecN_size]
  by_cases e : j = i
  · subst e; rw [if_pos rfl, if_pos h, vecN_get _ h, if_pos rfl]
  · rw [if_neg e]
    by_cases l : i < n
    · rw [vecN_get _ l, vecN_get _ l, if_neg (fun h => e h.symm)]
    · rw [Array.getElem?_eq_none (by rw [vecN_size]; omega), Array.getElem?_eq_none (by rw [vecN_size]; omega)]
theorem vecN_congr {n : Nat} {f g : Nat → U} (h : ∀ i, i < n → f i = g i) : vecN n f = vecN n g := by
  apply Array.ext_getElem?
  intro i
  by_cases l : i < n
  · rw [vecN_get _ l, vecN_get _ l, h i l]
  · rw [Array.getElem?_eq_none (by rw [vecN_size]; omega), Array.getElem?_eq_none (by rw [vecN_size]; omega)]
theorem vecN_one (n : Nat) (f : Nat → U) : (vecN n f).all (·.oneCell') = true := by
  rw [Array.all_eq_true]
  intro i h
  simp [vecN, Value.oneCell']
set_option maxRecDepth 100000 in
theorem rounds_calls (w : World) :
    Calls Tryd.prog 42 #[] w fun e w' => e = .returned (.agg (vecN 64 K)) ∧ Below w.heap.size w w' := by
  go_enter Tryd.func42, Tryd.ntmps42
  iterate 11 go_step
  refine wpList_build rfl 65 _ rfl (by kernel_rfl) ?_
  generalize hv : Option.getD (Program.built _ _ _) _ = v
  obtain rfl : v = vecN 64 K := by rw [← hv]; kernel_rfl
  clear hv
  refine wpList_store_row rfl 65 (.tmp 0) (.tmp 1) rfl w.heap.size (vecN 64 K) rfl rfl 65 _ (heap_alloc_new w _) (by kernel_rfl) (by rw [vecN_size]; rfl) (vecN_one 64 K) ?_
  generalize hW : World.setRow _ _ _ = W
  have hR : W.heap[w.heap.size]? = some (.cells (vecN 64 K) 65 (0, 0)) := by rw [← hW]; exact setRow_heap _ _ _ _ _ _ (heap_alloc_new w _)
  have hB : Below w.heap.size w W := by rw [← hW]; exact below_setRow (below_alloc (Below.refl _ _) _) (Nat.le_refl _) _
  have HR := Lib.hid hR
  clear hW hR
  go_wp2
  exact bodyPost_ret (results_cell_row rfl _ W w.heap.size 65 _ (0, 0) _ rfl HR.out Tryd.underlying65 rfl (by rw [vecN_size]; kernel_rfl)) rfl ⟨rfl, hB⟩
theorem extract_list (s : ByteArray) (a b : Nat) : (s.extract a b).data.toList = (s.data.toList.drop a).take (b - a) := by
  rw [ByteArray.data_extract, Array.toList_extract]
theorem bw_take (s : ByteArray) (i : Nat) : bw s i = be ((s.data.toList.drop (4 * i)).take 4) := by
  unfold bw; rw [extract_list, show 4 * i + 4 - 4 * i = 4 from by omega]
theorem getD_drop (l : List UInt8) (a c : Nat) : (l.drop a).getD c 0 = l.getD (a + c) 0 := by simp [List.getD_eq_getElem?_getD]
def wmix (s : ByteArray) (k c j : Nat) : U := if j < k then bw s j else if j = k then be ((s.data.toList.drop (4 * k)).take c) else 0
theorem wmix_step (s : ByteArray) (k c j : Nat) : (if j = k then be ((s.data.toList.drop (4 * k)).take (c + 1)) else wmix s k c j) = wmix s k (c + 1) j := by
  unfold wmix
  by_cases e : j = k
  · subst e; rw [if_pos rfl, if_neg (Nat.lt_irrefl _), if_pos rfl]
  · rw [if_neg e, if_neg e, if_neg e]
theorem wmix_done (s : ByteArray) (k j : Nat) : wmix s k 4 j = if j < k + 1 then bw s j else 0 := by
  unfold wmix
  by_cases e : j = k
  · subst e; rw [if_neg (Nat.lt_irrefl _), if_pos rfl, if_pos (by omega), bw_take]
  · rw [if_neg e]
    by_cases l : j < k
    · rw [if_pos l, if_pos (by omega)]
    · rw [if_neg l, if_neg (by omega)]
theorem wmix_zero (s : ByteArray) (k j : Nat) : wmix s k 0 j = if j < k then bw s j else 0 := by
  unfold wmix
  by_cases l : j < k
  · rw [if_pos l, if_pos l]
  · rw [if_neg l, if_neg l]
    by_cases e : j = k
    · rw [if_pos e]; rfl
    · rw [if_neg e]
theorem wd_step (s : ByteArray) (k j : Nat) : (if j = k then wd s k else if j < k then wd s j else 0) = if j < k + 1 then wd s j else 0 := by
  by_cases e : j = k
  · subst e; rw [if_pos rfl, if_pos (by omega)]
  · rw [if_neg e]
    by_cases l : j < k
    · rw [if_pos l, if_pos (by omega)]
    · rw [if_neg l, if_neg (by omega)]
theorem getElem_getD (s : ByteArray) (i : Nat) (h : i < s.size) : s[i] = s.data.toList.getD i 0 := by
  have h' : i < s.data.toList.length := by rw [data_length]; exact h
  rw [List.getD_eq_getElem?_getD, List.getElem?_eq_getElem h']; rfl
theorem ref_byte (s : ByteArray) (x : U) (i : Nat) (h : i < s.size) : (256 * u x + (s[i].toNat : Int)) % 4294967296 = u (256 * x + BitVec.ofNat 32 (s.data.toList.getD i 0).toNat) := by
  rw [getElem_getD s i h]
  have hb : (s.data.toList.getD i 0).toNat < 256 := (s.data.toList.getD i 0).toNat_lt
  generalize (s.data.toList.getD i 0).toNat = b at *
  unfold u
  rw [BitVec.toNat_add, BitVec.toNat_mul, BitVec.toNat_ofNat]
  have : (256 : U).toNat = 256 := rfl
  rw [this]; omega
set_option maxRecDepth 100000 in
set_option maxHeartbeats 4000000 in
theorem refsched_calls (s : ByteArray) (w : World) (hs : s.size = 64) :
    Calls Tryd.prog 41 #[.string s] w fun e w' => e = .returned (.agg (vecN 64 (wd s))) ∧ Below w.heap.size w w' := by
  go_enter Tryd.func41, Tryd.ntmps41
  iterate 18 go_step
  generalize hW : World.alloc _ _ = W
  have G0 : W.heap[w.heap.size]? = some (.cells (vecN 64 (fun _ => 0)) 65 (0, 0)) := by rw [← hW]; refine (heap_alloc2_old w _ _).trans ?_; kernel_rfl
  have G1 : W.heap[w.heap.size + 1]? = some (.cells (vecN 64 (fun _ => 0)) 65 (0, 0)) := by rw [← hW]; refine (heap_alloc2_new w _ _).trans ?_; kernel_rfl
  have GB : Below w.heap.size w W := by rw [← hW]; exact below_alloc (below_alloc (Below.refl _ _) _) _
  have HG0 := Lib.hid G0
  have HG1 := Lib.hid G1
  have HGB := Lib.hid GB
  clear hW G0 G1 GB
  have hl : s.data.toList.length = 64 := by rw [data_length, hs]
  have HL := Lib.hid hl
  have hs1 : 64 ≤ s.size := by omega
  have hs2 : s.size ≤ 64 := by omega
  clear hs hl
  go_wp2
  go_loopw [4] (fun i X => ∃ k : Nat, k ≤ 16 ∧ i = .int .i64 k ∧ X.heap[w.heap.size + 1]? = some (.cells (vecN 64 (fun j => if j < k then bw s j else 0)) 65 (0, 0)) ∧ Gb (w.heap.size + 1) W X)
    (fun i _ => 16 - (intOf i).toNat)
  case atStart => exact ⟨0, by omega, rfl, HG1.out, gb_refl _ _⟩
  case round =>
    obtain ⟨k, hk, rfl, hV, hX⟩ := hrel
    by_cases hlt : k < 16
    · have k1 : (k : Int) < 16 := by omega
      have k0 : 0 ≤ (k : Int) := by omega
      have HV := Lib.hid hV
      have HX := Lib.hid hX
      obtain ⟨wo, rfl⟩ : ∃ wo : World, wo = wr := ⟨_, rfl⟩
      clear hV hX
      go_wp2
      go_loopw [5] (fun i X => ∃ c : Nat, c ≤ 4 ∧ i = .int .i64 c ∧ X.heap[w.heap.size + 1]? = some (.cells (vecN 64 (wmix s k c)) 65 (0, 0)) ∧ Gb (w.heap.size + 1) W X)
        (fun i _ => 4 - (intOf i).toNat)
      case atStart => exact ⟨0, by omega, rfl, (by rw [HV.out]; exact congrArg (fun c => some (Obj.cells c 65 (0, 0))) (vecN_congr (fun j _ => (wmix_zero s k j).symm))), HX.out⟩
      case round =>
        obtain ⟨c, hc, rfl, hV, hX⟩ := hrel
        by_cases hlc : c < 4
        · have c1 : (c : Int) < 4 := by omega
          have c0 : 0 ≤ (c : Int) := by omega
          have hi1 : 0 ≤ 4 * (k : Int) + (c : Int) := by omega
          have hi2 : 4 * (k : Int) + (c : Int) < (s.size : Int) := by omega
          have HV := Lib.hid hV
          have HX := Lib.hid hX
          have d1 : ∀ p : XB.In (Below wr.heap.size wr), p.w.cell? ⟨w.heap.size + 1, k, none⟩ = some (.int .u32 (u (be ((s.data.toList.drop (4 * k)).take c)))) := fun p => (blk_cell (blk_same HV.out p.h) k).trans (by rw [vecN_get _ (by omega)]; unfold wmix; rw [if_neg (Nat.lt_irrefl _), if_pos rfl])
          clear hV hX
          go_wp2
          have k64 : (k : Int) < 64 := by omega
          have t1 : IntKind.i64.wrap (4 * (k : Int)) = 4 * (k : Int) := IntWalk.i64_in _ (by omega)
          have t2 : IntKind.i64.wrap (4 * (k : Int) + (c : Int)) = 4 * (k : Int) + (c : Int) := IntWalk.i64_in _ (by omega)
          have t3 : (4 * (k : Int) + (c : Int)).toNat = 4 * k + c := by omega
          haveI hne : Nonempty (XB.In (Below wr.heap.size wr)) := ⟨⟨wr.drew, below_drew1 (Below.refl _ _)⟩⟩
          refine XB.region_tail (fun w' => ∃ p : XB.In (Below wr.heap.size wr), w' = p.w) 14 (by kernel_rfl) (by kernel_rfl) ⟨⟨wr.drew, below_drew1 (Below.refl _ _)⟩, rfl⟩ ?_
          simp only [List.take_succ_cons, List.take_zero, List.drop_succ_cons, List.drop_zero]
          iterate 14 quiet_step (fail)
          refine wpQuiet_nil ?_
          rintro Y ⟨⟨_, hY⟩, rfl⟩
          have hV2 := blk_same HV.out hY
          have e1 := (blk_cell hV2 k).trans (vecN_get _ (by omega))
          have e2 := blk_frozen hV2 k
          have HV2 := Lib.hid hV2
          have HY := Lib.hid hY
          clear hne d1 hV2 hY
          have hb := ref_byte s (be ((s.data.toList.drop (4 * k)).take c)) (4 * k + c) (by omega)
          rw [← getD_drop, ← be_take _ _ (by rw [List.length_drop, HL.out]; omega)] at hb
          go_wp2
          go_roundw
          case rel => exact ⟨c + 1, by omega, by simp, (by rw [blk_set HV2.out k _, vecN_set _ _ (by omega)]; exact congrArg (fun c => some (Obj.cells c 65 (0, 0))) (vecN_congr (fun j _ => wmix_step s k c j))), gb_trans HX.out (gb_trans (gb_below _ HY.out) (gb_set _ _ _))⟩
          case measure => simp [intOf]; omega
        · obtain rfl : c = 4 := by omega
          have HV := Lib.hid hV
          have HX := Lib.hid hX
          clear hV hX
          go_wp2
          go_roundw
          case rel => exact ⟨k + 1, by omega, by simp, (by rw [HV.out]; exact congrArg (fun c => some (Obj.cells c 65 (0, 0))) (vecN_congr (fun j _ => wmix_done s k j))), HX.out⟩
          case measure => simp [intOf]; omega
    · obtain rfl : k = 16 := by omega
      have HV := Lib.hid hV
      have HX := Lib.hid hX
      obtain ⟨wo, rfl⟩ : ∃ wo : World, wo = wr := ⟨_, rfl⟩
      clear hV hX
      simp only [Int.cast_ofNat_Int]
      go_wp2
      go_loopw [6] (fun i X => ∃ k : Nat, 16 ≤ k ∧ k ≤ 64 ∧ i = .int .i64 k ∧ X.heap[w.heap.size + 1]? = some (.cells (vecN 64 (fun j => if j < k then wd s j else 0)) 65 (0, 0)) ∧ Gb (w.heap.size + 1) W X)
        (fun i _ => 64 - (intOf i).toNat)
      case atStart => exact ⟨16, by omega, by omega, rfl, (by rw [HV.out]; exact congrArg (fun c => some (Obj.cells c 65 (0, 0))) (vecN_congr (fun j _ => by by_cases l : j < 16; (rw [if_pos l, if_pos l, wd_lo s j l]); (rw [if_neg l, if_neg l])))), HX.out⟩
      case round =>
        obtain ⟨k, hk16, hk, rfl, hV, hX⟩ := hrel
        by_cases hlk : k < 64
        · have k1 : (k : Int) < 64 := by omega
          have k0 : 16 ≤ (k : Int) := by omega
          have HV := Lib.hid hV
          have HX := Lib.hid hX
          clear hV hX
          have hwd := wd_hi s k hk16
          have dd : ∀ j, j < k → ∀ X, Below wr.heap.size wr X → X.cell? ⟨w.heap.size + 1, j, none⟩ = some (.int .u32 (u (wd s j))) := fun j hj X h => (blk_cell (blk_same HV.out h) j).trans (by rw [vecN_get _ (by omega), if_pos hj])
          have b1 := dd (k - 15) (by omega) wr (Below.refl _ _)
          have b2 := dd (k - 2) (by omega) wr (Below.refl _ _)
          have d1 : ∀ p : XB.In (Below wr.heap.size wr), p.w.cell? ⟨w.heap.size + 1, k - 16, none⟩ = some (.int .u32 (u (wd s (k - 16)))) := fun p => dd _ (by omega) _ p.h
          have d2 : ∀ p : XB.In (Below wr.heap.size wr), p.w.cell? ⟨w.heap.size + 1, k - 7, none⟩ = some (.int .u32 (u (wd s (k - 7)))) := fun p => dd _ (by omega) _ p.h
          have n1 : ((k : Int) - 15).toNat = k - 15 := by omega
          have n2 : ((k : Int) - 2).toNat = k - 2 := by omega
          have n3 : ((k : Int) - 16).toNat = k - 16 := by omega
          have n4 : ((k : Int) - 7).toNat = k - 7 := by omega
          have t1 : IntKind.i64.wrap ((k : Int) - 16) = (k : Int) - 16 := IntWalk.i64_in _ (by omega)
          have t2 : IntKind.i64.wrap ((k : Int) - 7) = (k : Int) - 7 := IntWalk.i64_in _ (by omega)
          generalize wd s (k - 15) = x at *
          generalize wd s (k - 2) = y at *
          generalize wd s (k - 16) = o at *
          generalize wd s (k - 7) = z at *
          have HWD := Lib.hid hwd
          clear hwd dd
          have q1 : 0 ≤ (k : Int) - 16 := by omega
          have q2 : (k : Int) - 16 < 64 := by omega
          have q3 : 0 ≤ (k : Int) - 7 := by omega
          have q4 : (k : Int) - 7 < 64 := by omega
          have q5 : 0 ≤ (k : Int) := by omega
          have q6 : 7 ≤ (k : Int) := by omega
          go_wp2
          have r1 := u_add
          have r2 := u_xor
          have r3 : u x / (8 : Int) = u (x >>> 3) := u_shr x 3
          have r4 : u y / (1024 : Int) = u (y >>> 10) := u_shr y 10
          haveI hne : Nonempty (XB.In (Below wr.heap.size wr)) := ⟨⟨wr.drew, below_drew1 (Below.refl _ _)⟩⟩
          refine XB.region_tail (fun w' => ∃ p : XB.In (Below wr.heap.size wr), w' = p.w) 29 (by kernel_rfl) (by kernel_rfl) ⟨⟨wr.drew, below_drew1 (Below.refl _ _)⟩, rfl⟩ ?_
          simp only [List.take_succ_cons, List.take_zero, List.drop_succ_cons, List.drop_zero]
          iterate 29 quiet_step ((go_at_call 43; first | with_reducible exact XB.in_drewB (turn7 _ _) | with_reducible exact XB.in_drewB (turn18 _ _) | with_reducible exact XB.in_drewB (turn17 _ _) | with_reducible exact XB.in_drewB (turn19 _ _)))
          refine wpQuiet_nil ?_
          rintro Y ⟨⟨_, hY⟩, rfl⟩
          have HF : u (o + z + (rot 7 x ^^^ rot 18 x ^^^ x >>> 3) + (rot 17 y ^^^ rot 19 y ^^^ y >>> 10)) = u (wd s k) := by rw [HWD.out]; rfl
          have hV2 := blk_same HV.out hY
          have e1 := (blk_cell hV2 k).trans (vecN_get _ hlk)
          have e2 := blk_frozen hV2 k
          have HV2 := Lib.hid hV2
          have HY := Lib.hid hY
          clear hne d1 d2 b1 b2 hV2 hY r1 r2 r3 r4 t1 t2 n1 n2 n3 n4
          go_wp2
          clear HF
          go_roundw
          case rel => exact ⟨k + 1, by omega, by omega, by simp, (by rw [blk_set HV2.out k _, vecN_set _ _ hlk]; exact congrArg (fun c => some (Obj.cells c 65 (0, 0))) (vecN_congr (fun j _ => wd_step s k j))), gb_trans HX.out (gb_trans (gb_below _ HY.out) (gb_set _ _ _))⟩
          case measure => simp [intOf]; omega
        · obtain rfl : k = 64 := by omega
          have hV2 : wr.heap[w.heap.size + 1]? = some (.cells (vecN 64 (wd s)) 65 (0, 0)) := by rw [hV]; exact congrArg (fun c => some (Obj.cells c 65 (0, 0))) (vecN_congr (fun j hj => if_pos hj))
          have HV := Lib.hid hV2
          have HX := Lib.hid hX
          clear hV hX hV2
          go_wp2_with (first
            | (with_reducible refine wpList_load_row rfl 65 (.tmp 3) rfl (w.heap.size + 1) rfl 65 (vecN 64 (wd s)) (0, 0) _ HV.out Tryd.underlying65 rfl (by rw [vecN_size]; kernel_rfl) ?_)
            | (with_reducible refine wpList_store_row rfl 65 (.tmp 2) (.tmp 72) rfl w.heap.size (vecN 64 (wd s)) rfl rfl 65 _ (gb_same HX.out HG0.out (by omega)) (by rw [vecN_size]; kernel_rfl) (by rw [vecN_size, vecN_size]) (vecN_one 64 _) ?_))
          have hR : (wr.setRow w.heap.size (vecN 64 (wd s))).heap[w.heap.size]? = some (.cells (vecN 64 (wd s)) 65 (0, 0)) := setRow_heap _ _ _ _ _ _ (gb_same HX.out HG0.out (by omega))
          have hB : Below w.heap.size w (wr.setRow w.heap.size (vecN 64 (wd s))) := below_setRow (HGB.out.trans (gb_toBelow HX.out HGB.out.size (by omega))) (Nat.le_refl _) _
          exact bodyPost_ret (results_cell_row rfl _ _ w.heap.size 65 _ (0, 0) _ rfl hR Tryd.underlying65 rfl (by rw [vecN_size]; kernel_rfl)) rfl ⟨rfl, hB⟩
end Go.Proofs.YtajaobebcmlhaaaDoor.Pr
