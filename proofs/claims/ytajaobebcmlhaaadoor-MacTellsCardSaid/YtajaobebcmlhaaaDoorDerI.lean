/-
  The iterator over what is derived, part by part; a builder that is written in a round. Condition, where the program's own digest is run: the words of the rounds lie where the program has them.
-/
import Derived.Test.YtajaobebcmlhaaaDoorMacW
import Derived.Test.YtajaobebcmlhaaaDoorXInf
import Derived.Shelf.Strings.BuilderK
namespace Go.Proofs
open Go.Shelf
def Tryd.lays166_ren : Go.Shelf.Ren := ⟨fun | 105 => 47 | 212 => 62 | 99 => 63 | 165 => 64 | 166 => 54 | 170 => 53 | 169 => 55 | 263 => 69 | 264 => 70 | 206 => 71 | 240 => 66 | 241 => 72 | 276 => 73 | 277 => 74 | n => n, fun | 9 => 9 | 3 => 3 | 4 => 4 | 20 => 20 | 0 => 0 | 46 => 74 | 109 => 98 | 5 => 5 | 72 => 79 | 76 => 84 | 51 => 22 | 146 => 107 | 53 => 109 | 148 => 110 | 70 => 77 | 37 => 44 | 75 => 83 | 127 => 102 | 164 => 112 | 80 => 86 | n => n, fun | n => n⟩
theorem Tryd.lays166 : Go.Proofs.Lays.n166 Tryd.prog Tryd.lays166_ren := {
  mixed := by kernel_rfl
  f166 := Tryd.func54.trans (congrArg some (by kernel_rfl))
  f240 := Tryd.func66.trans (congrArg some (by kernel_rfl))
  f276 := Tryd.func73.trans (congrArg some (by kernel_rfl))
  t0 := Tryd.underlying0
  a0 := Tryd.isAgg0
  z0 := Tryd.sizeOf0
  v0 := Tryd.zeroValue0
  t3 := Tryd.underlying3
  a3 := Tryd.isAgg3
  z3 := Tryd.sizeOf3
  v3 := Tryd.zeroValue3
  t4 := Tryd.underlying4
  a4 := Tryd.isAgg4
  z4 := Tryd.sizeOf4
  v4 := Tryd.zeroValue4
  t9 := Tryd.underlying9
  a9 := Tryd.isAgg9
  z9 := Tryd.sizeOf9
  v9 := Tryd.zeroValue9
  t20 := Tryd.underlying20
  a20 := Tryd.isAgg20
  z20 := Tryd.sizeOf20
  v20 := Tryd.zeroValue20
  t37 := Tryd.underlying44
  a37 := Tryd.isAgg44
  z37 := Tryd.sizeOf44
  v37 := Tryd.zeroValue44
  t70 := Tryd.underlying77
  a70 := Tryd.isAgg77
  z70 := Tryd.sizeOf77
  v70 := Tryd.zeroValue77
  t72 := Tryd.underlying79
  a72 := Tryd.isAgg79
  z72 := Tryd.sizeOf79
  v72 := Tryd.zeroValue79
  t75 := Tryd.underlying83
  a75 := Tryd.isAgg83
  z75 := Tryd.sizeOf83
  v75 := Tryd.zeroValue83
  t164 := Tryd.underlying112
  a164 := Tryd.isAgg112
  z164 := Tryd.sizeOf112
  v164 := Tryd.zeroValue112 }
theorem Tryd.Builder_Extra_166 : Builder.Extra Tryd.prog Tryd.lays166_ren := {
  sizeBuilder := by kernel_rfl
  liesBuilder := by kernel_rfl
  t5 := Tryd.underlying5
  a5 := Tryd.isAgg5
  z5 := Tryd.sizeOf5
  v5 := Tryd.zeroValue5
  infoByte := by kernel_rfl
  cellsByte := by kernel_rfl
  sizeByte := by kernel_rfl
  neB5 := by decide }
open Go.RowKit in
theorem Tryd.Builder_WriteString_k (B b : Nat) (bs : List Value) (s : ByteArray) (w : World) (h : Lib.IsBuilderF 79 5 B b bs w) (hlen : bs.length + s.size ≤ 140737488355328) (hBw : B ≤ w.heap.size) :
    Calls Tryd.prog 54 #[.pointer (some ⟨b, 0, none⟩), .string s] w fun e w' => e = .returned (.tuple #[.int .i64 s.size, .nilIface]) ∧ (Lib.BuilderAtF 79 5 B b (.pointer (some ⟨b, 0, none⟩)) (bs ++ Lib.strCells s) w' ∧ Below B w w' ∧ Lib.OthersKept 5 (some b) w w') := Any.Builder_WriteString_k Tryd.lays166 Tryd.Builder_Extra_166 B b bs s w h hlen hBw
end Go.Proofs
namespace Go.Proofs.YtajaobebcmlhaaaDoor.Pr
open Go.RowKit Go.Shelf Go.Proofs.YtajaobebcmlhaaaDoor.XB Go.Proofs.Sha Go.Proofs.YtajaobebcmlhaaaDoorW.PrintWords
attribute [local go_sem] Oper.semAt_some
set_option linter.unusedVariables false
set_option linter.unusedSimpArgs false
/-- What the iterator asks of a round. -/
def Km (w0 : World) (ck cn : Nat) (X Y : World) : Prop := (∀ cs t fr, X.heap[ck]? = some (.cells cs t fr) → t ≠ 5 → Y.heap[ck]? = some (.cells cs t fr)) ∧ (∀ cs t fr, X.heap[cn]? = some (.cells cs t fr) → t ≠ 5 → Y.heap[cn]? = some (.cells cs t fr)) ∧ (Below w0.heap.size w0 X → Below w0.heap.size w0 Y)
/-- .. and what it does between two. -/
def Tm (B : Nat) (X Y : World) : Prop := Below X.heap.size X Y ∧ KeepsFrom B X Y
theorem tm_below {B : Nat} {X Y : World} (h : Below X.heap.size X Y) : Tm B X Y := ⟨h, keeps_below h⟩
theorem km_trans {w0 : World} {ck cn : Nat} {X Y Z : World} (h : Km w0 ck cn X Y) (k : Km w0 ck cn Y Z) : Km w0 ck cn X Z :=
  ⟨fun cs t fr q ht => k.1 cs t fr (h.1 cs t fr q ht) ht, fun cs t fr q ht => k.2.1 cs t fr (h.2.1 cs t fr q ht) ht, fun q => k.2.2 (h.2.2 q)⟩
theorem km_putObj {w0 : World} {ck cn n : Nat} (hn : w0.heap.size ≤ n) (W : World) (l : Nat) (o o' : Obj) (hl2 : n ≤ l) (hl : W.heap[l]? = some o) (ho : o.isCells = false) : Km w0 ck cn W (W.putObj l o') :=
  ⟨fun cs t fr hb _ => (World.putObj_heap_other (by rintro rfl; rw [hl] at hb; cases hb; cases ho)).trans hb, fun cs t fr hb _ => (World.putObj_heap_other (by rintro rfl; rw [hl] at hb; cases hb; cases ho)).trans hb,
   fun hb => (OwnW.below (B := n) (Nat.le_refl _) hn).putObj _ hb hl2 hl ho⟩
theorem conv_n (i : Nat) (W : World) (g : Nat) (h : W.cell? ⟨g, 0, none⟩ = some (.int .u8 ((i : Nat) : Int))) : (convert 44 9 (.slice (some ⟨g, 0, none⟩) 1 1)).run Tryd.prog W = .ok (.string ⟨#[UInt8.ofNat i]⟩) W := by
  have := run_convert_bytes_arg (P := Tryd.prog) W 44 5 Tryd.underlying44 Tryd.underlying5 g 0 1 1 [(i : Int)] rfl (fun j hj => by cases j with | zero => exact h | succ n => omega) 9 Tryd.underlying9
  rw [this]
  simp [strOfNums]
theorem mparts_calls (k m : ByteArray) (w : World) :
    Calls Tryd.prog 52 #[.string k, .string m] w fun e w' => e = .returned (.func (.func 65) #[] #[.pointer (some ⟨w.heap.size, 0, none⟩), .pointer (some ⟨w.heap.size + 1, 0, none⟩)]) ∧ w' = (w.alloc (.cells #[.string k] 9)).alloc (.cells #[.string m] 9) := by
  go_enter Tryd.func52, Tryd.ntmps52
  go_wp2
  go_ret
  exact ⟨rfl, rfl⟩
set_option maxRecDepth 100000 in
set_option maxHeartbeats 4000000 in
theorem mparts_seq (M : Nat) (hM : 1 ≤ M) (k m : ByteArray) (hk : k.size ≤ 1000) (hm : m.size ≤ 1000) (N : Nat) (hN : N ≤ 200) (w0 : World) (hG : Tbl w0) (B ck cn : Nat) :
    IterInf Fence.wide M Tryd.prog 65 #[.pointer (some ⟨ck, 0, none⟩), .pointer (some ⟨cn, 0, none⟩)] (fun i => #[.string (dpart k m (i + 1))]) N (fun W => W.heap[ck]? = some (.cells #[.string k] 9 (0, 0)) ∧ W.heap[cn]? = some (.cells #[.string m] 9 (0, 0)) ∧ Below w0.heap.size w0 W) (Tm B) (Km w0 ck cn) := by
  rintro l J Jx W ⟨hck, hcn, hB0⟩ hJT hJxT hJN hY h0
  refine callsIn_of_wp Tryd.func65 rfl trivial ?_ rfl
  simp only [Tryd.ntmps65, List.size_toArray, List.length_cons, List.length_nil, Nat.reduceAdd, Nat.reduceSub, Array.replicate_succ, Array.replicate_zero, List.push_toArray, List.append_toArray, List.nil_append, List.cons_append]
  have HG := Lib.hid hG
  clear hG
  gi_wp2
  gi_loopw [4, 5] (fun v4 v5 wr => ∃ i : Nat, i < N ∧ v4 = .string (dpart k m i) ∧ v5 = .int .u8 ((i : Int) + 1) ∧ J i wr ∧ wr.heap[ck]? = some (.cells #[.string k] 9 (0, 0)) ∧ wr.heap[cn]? = some (.cells #[.string m] 9 (0, 0)) ∧ Below w0.heap.size w0 wr)
    (fun _ v5 _ => N + 1 - (intOf v5).toNat)
  case atStart => exact ⟨0, by rcases Nat.eq_zero_or_pos N with h | h; (exact (hJN W (h ▸ h0)).elim); exact h, rfl, rfl, h0, hck, hcn, hB0⟩
  case round =>
    obtain ⟨i, hi, rfl, rfl, hJs, hrk, hrn, hB⟩ := hrel
    have hle := (dpart_le k m hk hm i).1
    have hmac := fun W (q : Tbl W) => mac_calls k (dpart k m i ++ m ++ ⟨#[UInt8.ofNat (i + 1)]⟩) W q
    have hs1 : (dpart k m i ++ m ++ ⟨#[UInt8.ofNat (i + 1)]⟩).size ≤ 1048512 := by rw [ByteArray.size_append, ByteArray.size_append, one_size]; omega
    have hme : (macH k (dpart k m i ++ m ++ ⟨#[UInt8.ofNat (i + 1)]⟩)).2 = 0 := by unfold macH; rw [if_neg (by omega), if_neg (by omega)]
    have hme1 : (macH k (dpart k m i ++ m ++ ⟨#[UInt8.ofNat (i + 1)]⟩)).1 = dpart k m (i + 1) := rfl
    rw [hme, hme1] at hmac
    have HMAC := Lib.hid hmac
    have kc : ∀ (W : World) (g : Nat), W.cell? ⟨g, 0, none⟩ = some (.int .u8 ((i : Int) + 1)) → Sem.run Tryd.prog (convert 44 9 (.slice (some ⟨g, 0, none⟩) 1 1)) W = .ok (.string ⟨#[UInt8.ofNat (i + 1)]⟩) W := fun W g h => conv_n (i + 1) W g h
    have HB := Lib.hid hB
    have HRK := Lib.hid hrk
    have HRN := Lib.hid hrn
    have c1 := (blk_cell hrk 0).trans rfl
    have c2 := (blk_cell hrn 0).trans rfl
    have hq1 : ¬ 9223372036854775807 < (dpart k m i).size + m.size := by omega
    have hq2 : ¬ 9223372036854775807 < (dpart k m i).size + m.size + 1 := by omega
    clear hmac hme hme1 hs1 hB hrk hrn
    generalize UInt8.ofNat (i + 1) = y at *
    generalize hdi : dpart k m i = di at *
    generalize hdj : dpart k m (i + 1) = dj at *
    gi_wp2_with fail
    refine ⟨trivial, (callsIn_wide.2 (HMAC.out _ (HG.out.below (below_alloc HB.out _)))).mono ?_⟩
    rintro e W1 ⟨rfl, hb⟩
    have hW1 : Below wr.heap.size wr W1 := (below_alloc (Below.refl _ wr) _).trans (hb.mono (by simp only [World.size_alloc]; omega))
    have B1 : Below w0.heap.size w0 W1 := HB.out.trans (hW1.mono HB.out.size)
    obtain ⟨fn, tmps, assign, body, hy, hYR⟩ := hY i _ (hJT i _ _ hJs (tm_below hW1)) hi
    rw [hdj] at hy
    have HRK1 := Lib.hid (blk_same HRK.out hW1)
    have HRN1 := Lib.hid (blk_same HRN.out hW1)
    clear c1 c2 kc
    gi_wp2
    refine hYR.mono ?_
    rintro e W3 (⟨rfl, hJ3, hk3⟩ | ⟨rfl, hJx3⟩)
    · have hi2 : i + 1 < N := by
        rcases Nat.lt_or_ge (i + 1) N with h | h
        · exact h
        · exact (hJN W3 ((show i + 1 = N by omega) ▸ hJ3)).elim
      gi_wp2
      go_roundw
      case rel => exact ⟨i + 1, hi2, by rw [hdj], congrArg (Value.int .u8) (by omega), hJ3, hk3.1 _ _ _ HRK1.out (by decide), hk3.2.1 _ _ _ HRN1.out (by decide), hk3.2.2 B1⟩
      case measure => simp [intOf]; omega
    · gi_wp2
      refine bodyPost_ret (results_none rfl _ _ _) rfl ?_
      exact ⟨⟨_, rfl⟩, .inr ⟨i + 1, by omega, hJx3⟩⟩
end Go.Proofs.YtajaobebcmlhaaaDoor.Pr
