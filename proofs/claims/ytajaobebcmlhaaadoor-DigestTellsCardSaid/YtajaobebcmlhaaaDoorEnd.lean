/-
  digest.End: what a sum on its way comes to. Condition: the words of the rounds lie where the program has them.
-/
import Derived.Test.YtajaobebcmlhaaaDoorAdd
import Derived.Test.YtajaobebcmlhaaaDoorXBytes
import Derived.Test.YtajaobebcmlhaaaDoorShelf
import Derived.Deep.DeepCutAuto
import Derived.Deep.RegionWith
import Derived.Laws.MakeOwn
namespace Go.Proofs.YtajaobebcmlhaaaDoor.Pr
open Go.RowKit Go.Shelf Go.Proofs.YtajaobebcmlhaaaDoor.XB Go.Proofs.Sha Go.Proofs.YtajaobebcmlhaaaDoorW.PrintWords
attribute [local go_sem] Oper.semAt_some
set_option linter.unusedVariables false
set_option linter.unusedSimpArgs false
/-- Eight bytes of a number, the highest one first. -/
def be8 (n : Nat) : List UInt8 := (List.range 8).map fun i => UInt8.ofNat (n / 2 ^ (56 - 8 * i))
/-- What stands behind a text of so many bytes, the rest of which has r. -/
def padL (r n : Nat) : List UInt8 := 128 :: (List.replicate ((119 - r) % 64) 0 ++ be8 (8 * n))
/-- A word's bytes. -/
def by4 (x : U) : List UInt8 := [UInt8.ofNat (x.toNat / 16777216), UInt8.ofNat (x.toNat / 65536), UInt8.ofNat (x.toNat / 256), UInt8.ofNat x.toNat]
def outL (v : S8) : Nat → List UInt8
  | 0 => []
  | n + 1 => outL v n ++ by4 (s8f v n)
def fullT (x : Hs) : ByteArray := x.rest ++ ⟨(padL x.rest.size x.many.toNat).toArray⟩
/-- What a sum on its way comes to; and the error. -/
def endH (x : Hs) : ByteArray × Int := if rightH x = true then (⟨(outL (all x.H (fullT x)) 8).toArray⟩, 0) else (ByteArray.empty, 1)
theorem repeat_zero (c : Nat) : Lib.repeatL [0] c = List.replicate c (0 : UInt8) := by
  induction c with
  | zero => rfl
  | succ n ih => simp [Lib.repeatL, List.replicate_succ, ih] <;> rfl
set_option maxRecDepth 100000 in
theorem end_e1 (x : Hs) (w : World) (hr : rightH x = false) :
    Calls Tryd.prog 23 #[.agg (hsc x)] w fun e w' => e = .returned (.tuple #[.string ByteArray.empty, .int .i64 1]) ∧ Below w.heap.size w w' := by
  have HR := Lib.hid hr
  clear hr
  have hra := right_any x
  simp only [hsc] at hra ⊢
  have HRA := Lib.hid hra
  clear hra
  go_enter Tryd.func23, Tryd.ntmps23
  go_wp2_with (go_at_call 25; with_reducible refine (HRA.out _).mono ?_; rintro e W1 ⟨rfl, hb⟩; rw [HR.out]; have HB := Lib.hid hb; clear hb)
  go_ret2
  exact ⟨rfl, (below_alloc (Below.refl _ w) _).trans (HB.out.mono (by simp only [World.size_alloc]; omega))⟩
theorem rep_calls (c : Nat) (w : World) (hc : c ≤ 64) : Calls Tryd.prog 47 #[.string ⟨#[0]⟩, .int .i64 c] w fun e w' => e = .returned (.string ⟨(List.replicate c 0).toArray⟩) ∧ Below w.heap.size w w' := by
  have h := Tryd.strings_Repeat ⟨#[0]⟩ c w (by omega) (by show 1 * c ≤ _; omega)
  rw [show Lib.repeatL (⟨#[0]⟩ : ByteArray).data.toList c = List.replicate c 0 from repeat_zero c] at h
  exact h
theorem conv128 (W : World) (g : Nat) (h : W.cell? ⟨g, 0, none⟩ = some (.int .u8 128)) : (convert 44 9 (.slice (some ⟨g, 0, none⟩) 1 1)).run Tryd.prog W = .ok (.string ⟨#[128]⟩) W := by
  have := run_convert_bytes_arg (P := Tryd.prog) W 44 5 Tryd.underlying44 Tryd.underlying5 g 0 1 1 [128] rfl (fun j hj => by cases j with | zero => exact h | succ n => omega) 9 Tryd.underlying9
  exact this
theorem pad_row (x : Hs) (c : Nat) (hc : c < 64) (hr : x.rest.size < 64) (W : World) (b : Nat) (h : b ≤ W.heap.size) (n : Nat) (hn : W.heap.size = n) :
    BRow (Lib.bytesWorld W 5 (x.rest ++ ⟨#[128]⟩ ++ ⟨Array.replicate c 0⟩)) b 5 (.slice (some ⟨n, 0, none⟩) ((x.rest.size + 1 + c : Nat)) (grownCap W (x.rest.size + 1 + c) 0 5)) (x.rest.data.toList ++ 128 :: List.replicate c 0) := by
  subst hn
  have e1 : (x.rest ++ ⟨#[128]⟩ ++ ⟨Array.replicate c (0 : UInt8)⟩ : ByteArray).size = x.rest.size + 1 + c := by
    simp only [ByteArray.size_append]
    show _ + 1 + (Array.replicate c (0 : UInt8)).size = _
    simp
  have h := brow_bytes W 5 (x.rest ++ ⟨#[128]⟩ ++ ⟨Array.replicate c 0⟩) b h (by rw [e1]; unfold maxLen; omega)
  have e2 : (x.rest ++ ⟨#[128]⟩ ++ ⟨Array.replicate c (0 : UInt8)⟩ : ByteArray).data.toList = x.rest.data.toList ++ 128 :: List.replicate c 0 := by simp [ByteArray.data_append]
  rw [e2, e1] at h
  exact h
/-- What lies in a loop over a text's blocks. -/
def EInv (x : Hs) (t : ByteArray) (w : World) (k : Nat) (W : World) : Prop :=
  W.heap[w.heap.size]? = some (.cells (hsc ⟨many x.H t k, x.rest, x.many⟩) 25 (0, 0)) ∧ Below w.heap.size w W
theorem einv_own {n : Nat} (x : Hs) (t : ByteArray) (w : World) (k : Nat) (hn : w.heap.size ≤ n) : OwnW n (EInv x t w k) :=
  .and (.blk _ _ _ _) (fun W W' row h hg hr => h.grown hg h.size (fun k e => Nat.le_trans hn (hr k e).1))
theorem einv_tb {x : Hs} {t : ByteArray} {w : World} {k B bb : Nat} {X Y : World} (hI : EInv x t w k X) (hb : w.heap.size < bb) (ht : Tb B bb X Y) : EInv x t w k Y :=
  ⟨gb_same ht.1 hI.1 (by omega), hI.2.trans (gb_toBelow ht.1 hI.2.size (by omega))⟩
set_option maxRecDepth 100000 in
theorem ix8 (v : S8) (j : Nat) (hj : j < 8) (W : World) :
    Sem.run Tryd.prog (Instr.index 23 (.agg #[.int .u32 (u v.a), .int .u32 (u v.b), .int .u32 (u v.c), .int .u32 (u v.d), .int .u32 (u v.e), .int .u32 (u v.f), .int .u32 (u v.g), .int .u32 (u v.h)]) (.int .i64 j)) W = .ok (.int .u32 (u (s8f v j))) W := by
  have h : j = 0 ∨ j = 1 ∨ j = 2 ∨ j = 3 ∨ j = 4 ∨ j = 5 ∨ j = 6 ∨ j = 7 := by omega
  have hu := Tryd.underlying23
  rcases h with rfl | rfl | rfl | rfl | rfl | rfl | rfl | rfl <;> (go_simp; try rfl)
theorem by4_cell (y : U) (m : Nat) (i : Int) (h : i = u y / (m : Int) % 256) : Value.int .u8 i = bV (UInt8.ofNat (y.toNat / m)) := by
  subst h
  simp only [bV, u, Value.int.injEq, true_and]
  simp
theorem outL_len (v : S8) (n : Nat) : (outL v n).length = 4 * n := by
  induction n with
  | zero => rfl
  | succ n ih => simp [outL, by4, ih]; omega
theorem info5 : ∃ i, Tryd.prog.info? 5 = some i ∧ i.zero = some (.int .u8 0) ∧ i.size = 1 ∧ i.bytes = 1 := by
  have h : (Tryd.prog.info? 5).isSome = true := by kernel_rfl
  refine ⟨(Tryd.prog.info? 5).get h, by simp, ?_, ?_, ?_⟩ <;> kernel_rfl
theorem brow_grown {W W' w : World} {base B : Nat} {e : TypeId} {v : Value} {l : List UInt8} (h : BRow W base e v l) (hb : Below B w W) (hB : B ≤ base) (hs : B ≤ W.heap.size) (hg : W.grownBy W' v.ownBlock) : Below B w W' :=
  ⟨hg.os.trans hb.os, hg.tape.trans hb.tape, hg.output.trans hb.output, Nat.le_trans hb.size hg.size, fun i hi => (hg.block i (Nat.lt_of_lt_of_le hi hs) (fun e => by
    have := (h.ge i e.symm).1
    omega)).trans (hb.block i hi)⟩
theorem be8_next (n : Nat) {k : Nat} (hk : k < 8) : (be8 n).take (k + 1) = (be8 n).take k ++ [UInt8.ofNat (n / 2 ^ (56 - 8 * k))] := by
  rw [List.take_add_one]
  congr 1
  simp [be8, List.getElem?_map, List.getElem?_range hk]
theorem bV_of (m : Nat) (i : Int) (h : i = m) : Value.int .u8 (IntKind.u8.wrap i) = bV (UInt8.ofNat m) := by
  subst h
  simp only [bV, Value.int.injEq, true_and]
  simp [IntKind.wrap, IntKind.bits, IntKind.signed]
class One (W X : World) : Prop where
  h : Below W.heap.size W X
instance (W : World) : One W W.drew := ⟨below_drew1 (Below.refl _ _)⟩
instance (W : World) (o : Obj) : One W (W.alloc o).drew := ⟨below_drew1 (below_alloc (Below.refl _ _) _)⟩
theorem one_below {W X Y : World} [hx : One W X] (h : Below X.heap.size X Y) : Below W.heap.size W Y := hx.h.trans (h.mono hx.h.size)
set_option maxRecDepth 100000 in
set_option maxHeartbeats 4000000 in
theorem end_ok (x : Hs) (w : World) (hr : rightH x = true) (hG : Tbl w) :
    Calls Tryd.prog 23 #[.agg (hsc x)] w fun e w' => e = .returned (.tuple #[.string ⟨(outL (all x.H (fullT x)) 8).toArray⟩, .int .i64 0]) ∧ Below w.heap.size w w' := by
  obtain ⟨m0, m1, m2⟩ := (rightH_iff x).1 hr
  have hrs : x.rest.size < 64 := by omega
  have HR := Lib.hid hr
  have HM2 := Lib.hid m2
  have HG := Lib.hid hG
  clear hr m2 hG
  have hra := right_any x
  simp only [hsc] at hra ⊢
  have HRA := Lib.hid hra
  clear hra
  refine (callsIn_wide (n := 9)).1 (callsIn_of_wp_marks Tryd.func23 rfl trivial ?_ rfl)
  refine XB.QM_wp ?_
  simp only [Tryd.ntmps23, List.size_toArray, List.length_cons, List.length_nil, Nat.reduceAdd, Nat.reduceSub, Array.replicate_succ, Array.replicate_zero, List.push_toArray, List.append_toArray, List.nil_append, List.cons_append]
  go_wp2_with (go_at_call 25; with_reducible refine (HRA.out _).mono ?_; rintro e W1 ⟨rfl, hb⟩; rw [HR.out]; have HB := Lib.hid hb; clear hb; have HG0 := Lib.hid (blk_same (heap_alloc_new w _) HB.out); have c8 := (blk_cell HG0.out 8).trans rfl)
  have hcn : ∃ c : Nat, (119 - (x.rest.size : Int)) % 64 = (c : Int) ∧ c = (119 - x.rest.size) % 64 := ⟨_, by omega, rfl⟩
  obtain ⟨c, hc1, hc2⟩ := hcn
  simp only [hc1]
  have HC2 := Lib.hid hc2
  have c64 : c < 64 := by omega
  clear hc1 hc2
  go_cut [5] from 19 to 27 (fun v5 wx => BRow wx W1.heap.size 5 v5 (x.rest.data.toList ++ 128 :: List.replicate c 0) ∧ Below W1.heap.size W1 wx)
  case first =>
    have hrep := fun W => rep_calls c W (by omega)
    have HREP := Lib.hid hrep
    have kb := fun W s => print_bytes (P := Tryd.prog) 9 44 5 Tryd.underlying9 Tryd.underlying44 Tryd.underlying5 s W
    have kc := conv128
    have zW : w.heap.size < W1.heap.size := blk_lt HG0.out
    clear hrep
    go_region_with ((go_at_call 47; refine (HREP.out _).mono ?_; rintro e W2 ⟨rfl, hb2⟩; (first | have q1 := (show W2.cell? ⟨W1.heap.size, 0, none⟩ = some (.int .u8 128) from (blk_cell (blk_same (heap_alloc_new W1.drew (.cells #[.int .u8 128] 5)) hb2) 0).trans rfl) | skip); have q3 := (show W2.cell? ⟨w.heap.size, 8, none⟩ = some (.string x.rest) by (first | exact (blk_cell (blk_same (w := W1.drew) HG0.out hb2) 8).trans rfl | exact (blk_cell (blk_same (w := W1.drew.alloc (.cells #[.int .u8 128] 5)) (blk_alloc (w := W1.drew) HG0.out _) hb2) 8).trans rfl)); have zW2 := (show w.heap.size < W2.heap.size from Nat.lt_of_lt_of_le zW (Nat.le_trans (by first | exact Nat.le_refl _ | (show W1.heap.size ≤ (W1.alloc (.cells #[.int .u8 128] 5)).heap.size; rw [World.size_alloc]; exact Nat.le_succ _)) hb2.size)); have HB2 := Lib.hid hb2; clear hb2))
    all_goals (go_wp2_with fail; go_meet)
    all_goals first
      | exact ⟨pad_row x c c64 hrs W2 _ (by first | exact HB2.out.size | exact Nat.le_trans (by show W1.heap.size ≤ (W1.alloc _).heap.size; rw [World.size_alloc]; omega) HB2.out.size) _ rfl, bytes_below (one_below HB2.out) (by first | exact HB2.out.size | exact Nat.le_trans (by show W1.heap.size ≤ (W1.alloc _).heap.size; rw [World.size_alloc]; omega) HB2.out.size) 5 _⟩
      | exact ⟨pad_row x c c64 hrs (W2.alloc _) _ (by rw [World.size_alloc]; exact Nat.le_succ_of_le (by first | exact HB2.out.size | exact Nat.le_trans (by show W1.heap.size ≤ (W1.alloc _).heap.size; rw [World.size_alloc]; omega) HB2.out.size)) _ (World.size_alloc _ _), bytes_below (below_alloc (one_below HB2.out) _) (by rw [World.size_alloc]; exact Nat.le_succ_of_le (by first | exact HB2.out.size | exact Nat.le_trans (by show W1.heap.size ≤ (W1.alloc _).heap.size; rw [World.size_alloc]; omega) HB2.out.size)) 5 _⟩
  case rest =>
    clear HRA c8
    obtain ⟨hb5, hB2⟩ := hcut
    obtain ⟨ti, hti, tz, ts, tb⟩ := info5
    have hn8 : 0 ≤ x.many := m0
    obtain ⟨n, hn⟩ : ∃ n : Nat, x.many = n := ⟨x.many.toNat, by omega⟩
    have n1 : (n : Int) ≤ 1048576 := by omega
    have HN := Lib.hid hn
    clear hn hn8
    go_wp2_with fail
    go_loopw [6, 5] (fun i v X => ∃ k : Nat, k ≤ 8 ∧ i = .int .i64 (56 - 8 * (k : Int)) ∧ BRow X W1.heap.size 5 v (x.rest.data.toList ++ 128 :: List.replicate c 0 ++ (be8 (8 * n)).take k) ∧ Below W1.heap.size W1 X)
      (fun i _ _ => (intOf i + 8).toNat)
    case atStart => exact ⟨0, by omega, rfl, by simpa using hb5, hB2⟩
    case round =>
      obtain ⟨k, hk, rfl, hR, hX⟩ := hrel
      have G0 := blk_same HG0.out hX
      have c9 : wr.cell? ⟨w.heap.size, 9, none⟩ = some (.int .i64 (n : Int)) := by rw [← HN.out]; exact (blk_cell G0 9).trans rfl
      by_cases hlt : k < 8
      · have k1 : 0 ≤ 56 - 8 * (k : Int) := by omega
        have k2 : 56 - 8 * (k : Int) < 64 := by omega
        have hwb : W1.heap.size ≤ wr.heap.size := hX.size
        have hln : (x.rest.data.toList ++ 128 :: List.replicate c 0 ++ (be8 (8 * n)).take k).length ≤ 200 := by
          have := data_length x.rest
          simp [be8]; omega
        go_wp2_with (refine wpList_append_brow rfl (.tmp 32) (.tmp 39) 44 rfl W1.heap.size 5 ti Tryd.underlying44 hti tz ts tb _ _ rfl (hR.below (below_alloc (Below.refl _ _) _)) ⟨wr.heap.size, 0, none⟩ 1 [UInt8.ofNat (8 * n / 2 ^ (56 - 8 * k))] rfl (Nat.zero_lt_one) (by intro j u hj; cases j with | zero => (cases hj; rw [add_plain]; refine (blk_cell (heap_alloc_new wr _) 0).trans ?_; simp [bV]) | succ j => cases hj) (by simp only [List.length_cons, List.length_nil]; omega) (by rw [World.size_alloc]; omega) ?_; intro v' W' hR' hg')
        have hB' : Below W1.heap.size W1 W' := brow_grown (hR.below (below_alloc (Below.refl _ _) (.cells #[bV (UInt8.ofNat (8 * n / 2 ^ (56 - 8 * k)))] 5))) (below_alloc hX _) (Nat.le_refl _) (by rw [World.size_alloc]; omega) hg'
        go_roundw
        case rel =>
          refine ⟨k + 1, by omega, ?_, ?_, hB'⟩
          · exact congrArg (Value.int .i64) (by omega)
          · rw [be8_next _ hlt, ← List.append_assoc]; exact hR'
        case measure => simp [intOf]; omega
      · obtain rfl : k = 8 := by omega
        have hfull : x.rest.data.toList ++ 128 :: List.replicate c 0 ++ (be8 (8 * n)).take 8 = (fullT x).data.toList := by
          simp only [fullT, padL, ByteArray.data_append]
          rw [List.take_of_length_le (by simp [be8]), ← HC2.out, HN.out]
          simp
        rw [hfull] at hR
        clear hfull c9
        have kr := run_convert_brow hR 44 9 Tryd.underlying44 Tryd.underlying5 Tryd.underlying9
        rw [show (⟨(fullT x).data.toList.toArray⟩ : ByteArray) = fullT x by simp] at kr
        have hFS : (fullT x).size = x.rest.size + 1 + c + 8 := by
          show (x.rest ++ _ : ByteArray).size = _
          rw [ByteArray.size_append]
          show _ + (padL _ _).toArray.size = _
          simp [padL, be8, ← HC2.out]; omega
        have HFS := Lib.hid hFS
        have HGX := Lib.hid G0
        have HX := Lib.hid hX
        clear hR hFS G0 hX
        simp only [Int.cast_ofNat_Int]
        generalize hT : fullT x = T at *
        go_wp2_with (go_at_call 44; refine (blocks_calls _ _).mono ?_; rintro e w' ⟨rfl, rfl⟩)
        have b1 : Below w.heap.size w wr := (below_alloc (Below.refl _ w) _).trans ((HB.out.mono (by simp only [World.size_alloc]; omega)).trans (HX.out.mono (by have := HB.out.size; simp only [World.size_alloc] at this; omega)))
        generalize hW0 : World.alloc wr _ = W0
        have F0 : W0.heap[w.heap.size]? = some (.cells (hsc x) 25 (0, 0)) := by rw [← hW0]; exact blk_alloc HGX.out _
        have F2 : W0.heap[wr.heap.size]? = some (.cells #[.string T] 9 (0, 0)) := by rw [← hW0]; simpa using heap_alloc_new wr (.cells #[.string T] 9)
        have FB : Below w.heap.size w W0 := by rw [← hW0]; exact below_alloc b1 _
        have z0 : w.heap.size < wr.heap.size := blk_lt HGX.out
        have z1 : wr.heap.size < W0.heap.size := blk_lt F2
        clear hW0 b1
        have hTb : T.size ≤ 1099511627776 := by rw [HFS.out]; omega
        refine XB.wp_range1 (n := 9) (by omega) (gf := 61) (lb := #[.pointer (some ⟨wr.heap.size, 0, none⟩)]) rfl (enters_of Tryd.func61 (by kernel_rfl) rfl) (fun k => .string (T.extract (64 * k) (64 * k + 64))) (T.size / 64) (blocks_seq 8 (by omega) T hTb W0.heap.size wr.heap.size) (XB.OwnW.blk _ _ _ _) F2 (fun _ _ h => h.2) kb_trans (fun W l o o' _ hl ho => kb_putObj W l o o' hl ho) (by simp)
          (EInv x T w) (fun _ _ _ => False) (fun k => einv_own x T w k FB.size) (fun _ _ => .pure _) (fun k _ _ hi ht => einv_tb hi z0 ht) (fun _ _ _ _ h _ => h) ⟨F0, FB⟩ ?body ?done ?stop
        case stop => exact fun _ _ _ _ _ _ h => h.elim
        case body =>
          rintro l k W ⟨G0, GB⟩ hk
          have hsz : (T.extract (64 * k) (64 * k + 64)).size = 64 := by rw [ByteArray.size_extract]; omega
          have hc := compress_calls (many x.H T k) (T.extract (64 * k) (64 * k + 64)) W hsz (HG.out.below GB)
          have hstep : many x.H T (k + 1) = comp (many x.H T k) (T.extract (64 * k) (64 * k + 64)) := rfl
          generalize many x.H T k = v at *
          generalize T.extract (64 * k) (64 * k + 64) = blk at *
          unfold hsc at G0
          simp only [s8c] at hc
          have c0 := (blk_cell G0 0).trans rfl
          have c1 := (blk_cell G0 1).trans rfl
          have c2 := (blk_cell G0 2).trans rfl
          have c3 := (blk_cell G0 3).trans rfl
          have c4 := (blk_cell G0 4).trans rfl
          have c5 := (blk_cell G0 5).trans rfl
          have c6 := (blk_cell G0 6).trans rfl
          have c7 := (blk_cell G0 7).trans rfl
          have HC := Lib.hid hc
          have HSTEP := Lib.hid hstep
          have HG1 := Lib.hid G0
          have HGB := Lib.hid GB
          clear hc hstep G0 GB hsz
          gi_wp2_with fail
          refine ⟨trivial, ?_⟩
          refine (CallsIn.inRound l (callsIn_wide.2 HC.out)).mono ?_
          rintro e W2 ⟨rfl, hb⟩
          have g2 := blk_same HG1.out hb
          have e0 := (blk_cell g2 0).trans rfl
          have f0 := blk_frozen g2 0
          have e1 := (blk_cell g2 1).trans rfl
          have f1 := blk_frozen g2 1
          have e2 := (blk_cell g2 2).trans rfl
          have f2 := blk_frozen g2 2
          have e3 := (blk_cell g2 3).trans rfl
          have f3 := blk_frozen g2 3
          have e4 := (blk_cell g2 4).trans rfl
          have f4 := blk_frozen g2 4
          have e5 := (blk_cell g2 5).trans rfl
          have f5 := blk_frozen g2 5
          have e6 := (blk_cell g2 6).trans rfl
          have f6 := blk_frozen g2 6
          have e7 := (blk_cell g2 7).trans rfl
          have f7 := blk_frozen g2 7
          have HG2 := Lib.hid g2
          have HB2 := Lib.hid hb
          clear g2 hb c0 c1 c2 c3 c4 c5 c6 c7
          gi_wp2
          generalize hX : World.setCell _ ⟨w.heap.size, 7, none⟩ _ = X
          have XG : Gb w.heap.size W X := by rw [← hX]; exact gb_trans (gb_below _ HB2.out) (gb_put8 _)
          have XV : X.heap[w.heap.size]? = some (.cells (hsc ⟨many x.H T (k + 1), x.rest, x.many⟩) 25 (0, 0)) := by rw [← hX, HSTEP.out]; exact put8of10 HG2.out
          clear hX
          exact ⟨gb_keeps XG HG1.out, kb_gb XG (by omega), XV, HGB.out.trans (gb_toBelow XG HGB.out.size (Nat.le_refl _))⟩
        case done =>
          rintro D W hD ⟨G0, GB⟩ hDD
          rename_i K_ hK_
          refine hK_ _ _ ?_
          clear hK_
          have hall : many x.H T (T.size / 64) = all x.H T := rfl
          rw [hall] at G0
          generalize hve : all x.H T = v at *
          have HVE := Lib.hid hve
          clear hve hall
          unfold hsc at G0
          obtain ⟨wm, hm, hmo, hmg⟩ := run_make_own (P := Tryd.prog) W W.heap.size 44 5 ti (.int .u8 0) 1 Tryd.underlying44 hti tz ts .i64 .i64 32 (by rw [tb]; decide) (by decide) (Nat.le_refl _)
          simp only [Int.cast_ofNat_Int] at hm
          have hwm : Below W.heap.size W wm := ⟨hmg.os, hmg.tape, hmg.output, hmg.size, fun i hi => hmg.block i hi (by simp)⟩
          have G2 := blk_same G0 hwm
          have c0 := (blk_cell G2 0).trans rfl
          have c1 := (blk_cell G2 1).trans rfl
          have c2 := (blk_cell G2 2).trans rfl
          have c3 := (blk_cell G2 3).trans rfl
          have c4 := (blk_cell G2 4).trans rfl
          have c5 := (blk_cell G2 5).trans rfl
          have c6 := (blk_cell G2 6).trans rfl
          have c7 := (blk_cell G2 7).trans rfl
          have HG1 := Lib.hid G0
          have HGB := Lib.hid GB
          have HDD := Lib.hid hDD
          have HWM := Lib.hid hwm
          clear G0 GB hDD G2 hwm
          go_wp2
          go_loopw [56, 8] (fun i r X => ∃ j : Nat, j ≤ 8 ∧ i = .int .i64 (j : Int) ∧ BRow X W.heap.size 5 r (outL v j) ∧ Below W.heap.size W X)
            (fun i _ _ => 8 - (intOf i).toNat)
          case atStart => exact ⟨0, by omega, rfl, .inl hmo, HWM.out⟩
          case round =>
            obtain ⟨j, hj, rfl, hR, hX⟩ := hrel
            by_cases hlt : j < 8
            · have j1 : (j : Int) < 8 := by omega
              have kx := ix8 v j hlt wr
              have hout : outL v (j + 1) = outL v j ++ by4 (s8f v j) := rfl
              generalize s8f v j = y at *
              have u0 := u_nonneg y
              have u1 := u_lt y
              have hwb : W.heap.size ≤ wr.heap.size := hX.size
              have hln : (outL v j).length = 4 * j := outL_len v j
              have HOUT := Lib.hid hout
              clear hout
              go_wp2_with (refine wpList_append_brow rfl (.tmp 59) (.tmp 71) 44 rfl W.heap.size 5 ti Tryd.underlying44 hti tz ts tb _ _ rfl (hR.below (below_alloc (Below.refl _ _) _)) ⟨wr.heap.size, 0, none⟩ 4 (by4 y) rfl (Nat.succ_pos 3) (by intro j u hj; rw [add_plain]; match j with | 0 => (cases hj; refine (blk_cell (heap_alloc_new wr _) 0).trans (congrArg some ?_); exact by4_cell y 16777216 _ (by simp; omega)) | 1 => (cases hj; refine (blk_cell (heap_alloc_new wr _) 1).trans (congrArg some ?_); exact by4_cell y 65536 _ (by simp)) | 2 => (cases hj; refine (blk_cell (heap_alloc_new wr _) 2).trans (congrArg some ?_); exact by4_cell y 256 _ (by simp)) | 3 => (cases hj; refine (blk_cell (heap_alloc_new wr _) 3).trans (congrArg some ?_); exact (by4_cell y 1 _ (by simp)).trans (by simp)) | j + 4 => cases hj) (by show (outL v j).length + 4 ≤ _; omega) (by rw [World.size_alloc]; omega) ?_; intro v' W' hR' hg')
              have hB' : Below W.heap.size W W' := brow_grown (hR.below (below_alloc (Below.refl _ _) _)) (below_alloc hX _) (Nat.le_refl _) (by rw [World.size_alloc]; omega) hg'
              go_roundw
              case rel =>
                refine ⟨j + 1, by omega, ?_, ?_, hB'⟩
                · exact congrArg (Value.int .i64) (by omega)
                · rw [HOUT.out]; exact hR'
              case measure => simp [intOf]; omega
            · obtain rfl : j = 8 := by omega
              have kr := run_convert_brow hR 44 9 Tryd.underlying44 Tryd.underlying5 Tryd.underlying9
              simp only [Int.cast_ofNat_Int]
              have G3 := blk_same HDD.out hX
              have b3 : Below w.heap.size w wr := HGB.out.trans (hX.mono HGB.out.size)
              have H3 := Lib.hid G3
              have B3 := Lib.hid b3
              clear G3 b3 hX hR
              go_wp2
              refine XB.QM_ret (.inl rfl) H3.out (XB.resultsX_list (rs := [.tmp 2, .tmp 3]) (vs := [.string ⟨(outL v 8).toArray⟩, .int .i64 0]) rfl (by simp) (.tmp (.tmp .nil))) ⟨?_, (XB.OwnW.below (Nat.le_refl _) FB.size).putObj _ B3.out hD H3.out rfl⟩
              rw [hT, HVE.out]
theorem end_calls (x : Hs) (w : World) (hG : Tbl w) : Calls Tryd.prog 23 #[.agg (hsc x)] w fun e w' => e = .returned (.tuple #[.string (endH x).1, .int .i64 (endH x).2]) ∧ Below w.heap.size w w' := by
  unfold endH
  by_cases hr : rightH x = true
  · rw [if_pos hr]; exact end_ok x w hr hG
  · rw [if_neg hr]; exact end_e1 x w (by simpa using hr)
end Go.Proofs.YtajaobebcmlhaaaDoor.Pr
