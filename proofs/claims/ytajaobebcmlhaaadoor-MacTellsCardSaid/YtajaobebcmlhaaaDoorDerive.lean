/-
  mac.Derive: so many bytes, by a key and a name. Condition: the words of the rounds lie where the program has them.
-/
import Derived.Test.YtajaobebcmlhaaaDoorDerI
namespace Go.Proofs.YtajaobebcmlhaaaDoor.Pr
open Go.RowKit Go.Shelf Go.Proofs.YtajaobebcmlhaaaDoor.XB Go.Proofs.Sha Go.Proofs.YtajaobebcmlhaaaDoorW.PrintWords
attribute [local go_sem] Oper.semAt_some
set_option linter.unusedVariables false
set_option linter.unusedSimpArgs false
theorem bld_grown {B b : Nat} {bs : List Value} {W W' : World} {row : Option Nat} (h : Lib.IsBuilderF 79 5 B b bs W) (hg : W.grownBy W' row) (hr : ∀ r, row = some r → ∃ o : Obj, W.heap[r]? = some o ∧ o.isCells = false) : Lib.IsBuilderF 79 5 B b bs W' := by
  have key : ∀ p, Lib.BuilderAtF 79 5 B b p bs W → Lib.BuilderAtF 79 5 B b p bs W' := by
    rintro p ⟨h1, v, h2, h3, h4⟩
    refine ⟨h1, v, blk_grown h2 hg (fun e => ?_), h3.kept hg ?_, h4⟩
    · obtain ⟨o, ho, hc⟩ := hr b e.symm
      rw [h2] at ho; cases ho; cases hc
    · rcases hv : v.ownBlock with _ | r
      · exact .inl rfl
      · refine .inr (fun e => ?_)
        obtain ⟨o, ho, hc⟩ := hr r e.symm
        obtain ⟨c, fz, hk⟩ := Lib.ownsRowF_kind h3 r hv
        rw [hk] at ho; cases ho; cases hc
  exact h.elim (fun x => .inl (key _ x)) (fun x => .inr (key _ x))
theorem bld_below {B b : Nat} {bs : List Value} {W W' : World} (h : Lib.IsBuilderF 79 5 B b bs W) (hb : Below W.heap.size W W') : Lib.IsBuilderF 79 5 B b bs W' :=
  bld_grown (row := none) h ⟨hb.os, hb.tape, hb.output, hb.size, fun i hi _ => hb.block i hi⟩ (fun r e => by cases e)
theorem bld_own {n B b : Nat} {bs : List Value} : OwnW n (fun W => Lib.IsBuilderF 79 5 B b bs W) := fun W W' row h hg hr => bld_grown h hg (fun r e => (hr r e).2)
theorem others_keeps {B b : Nat} {W W' : World} {n : Nat} (h : Lib.OthersKept 5 (some b) W W') (hb : ∃ cs t fr, W.heap[b]? = some (.cells cs t fr)) (hs : Below B W W') : KeepsFrom n W W' :=
  ⟨hs.size, fun k o _ hk hc => h k o hk (by rintro e; cases e; obtain ⟨cs, t, fr, q⟩ := hb; rw [q] at hk; cases hk; cases hc) (by rintro c fz rfl; cases hc)⟩
theorem others_cells {b g : Nat} {W W' : World} {cs : Array Value} {t : TypeId} {fr : Nat × Nat} (h : Lib.OthersKept 5 (some b) W W') (hg : W.heap[g]? = some (.cells cs t fr)) (ht : t ≠ 5) (hb : g ≠ b) : W'.heap[g]? = some (.cells cs t fr) :=
  h g _ hg (fun e => hb (by cases e; rfl)) (fun c fz e => ht (by cases e; rfl))
theorem bld_cells {B b : Nat} {bs : List Value} {W : World} (h : Lib.IsBuilderF 79 5 B b bs W) : ∃ cs t fr, W.heap[b]? = some (.cells cs t fr) := by
  rcases h with ⟨_, v, h, _⟩ | ⟨_, v, h, _⟩ <;> exact ⟨_, _, _, h⟩
def DInv (k m : ByteArray) (n M : Nat) (w : World) (j : Nat) (W : World) : Prop :=
  j ≤ M ∧ Lib.IsBuilderF 79 5 w.heap.size (w.heap.size + 1) (Lib.byteCells (dall k m j).data.toList) W ∧ W.heap[w.heap.size]? = some (.cells #[.int .i64 (n : Int)] 3 (0, 0)) ∧ Below w.heap.size w W
def DS (n : Nat) (T : ByteArray) (w : World) (D : Nat) (X : World) : Prop :=
  Below w.heap.size w X ∧ X.heap[w.heap.size]? = some (.cells #[.int .i64 (n : Int)] 3 (0, 0)) ∧ Lib.IsBuilderF 79 5 w.heap.size (w.heap.size + 1) (Lib.byteCells T.data.toList) X ∧ X.heap[D]? = some (.deferred (some []))
theorem dinv_own {k m : ByteArray} {n M : Nat} {w : World} {j b : Nat} (hb : w.heap.size ≤ b) : OwnW b (DInv k m n M w j) :=
  .and (.pure _) (.and bld_own (.and (.blk _ _ _ _) (.below (Nat.le_refl _) hb)))
theorem dinv_tm {k m : ByteArray} {n M : Nat} {w : World} {j B : Nat} {X Y : World} (h : DInv k m n M w j X) (ht : Tm B X Y) : DInv k m n M w j Y :=
  ⟨h.1, bld_below h.2.1 ht.1, blk_same h.2.2.1 ht.1, h.2.2.2.trans (ht.1.mono h.2.2.2.size)⟩
set_option maxRecDepth 100000 in
theorem derive_e (k m : ByteArray) (n : Int) (w : World) (hn0 : -9223372036854775808 ≤ n) (hn1 : n ≤ 9223372036854775807) (h : ¬ ((k.size ≤ 1000 ∧ m.size ≤ 1000) ∧ 0 ≤ n ∧ n ≤ 4096)) :
    Calls Tryd.prog 33 #[.string k, .string m, .int .i64 n] w fun e w' => e = .returned (.tuple #[.string ByteArray.empty, .int .i64 1]) ∧ Below w.heap.size w w' := by
  by_cases h1 : k.size ≤ 1000 ∧ m.size ≤ 1000
  · have hm : ¬ ((1000 : Int) < max (k.size : Int) (m.size : Int)) := by omega
    generalize max (k.size : Int) (m.size : Int) = q at *
    by_cases h2 : n < 0
    · go_enter Tryd.func33, Tryd.ntmps33
      go_wp2
      go_ret2
      exact ⟨rfl, below_alloc (Below.refl _ _) _⟩
    · have h3 : 4096 < n := by omega
      go_enter Tryd.func33, Tryd.ntmps33
      go_wp2
      go_ret2
      exact ⟨rfl, below_alloc (Below.refl _ _) _⟩
  · have hm : (1000 : Int) < max (k.size : Int) (m.size : Int) := by omega
    generalize max (k.size : Int) (m.size : Int) = q at *
    go_enter Tryd.func33, Tryd.ntmps33
    go_wp2
    go_ret2
    exact ⟨rfl, below_alloc (Below.refl _ _) _⟩
set_option maxRecDepth 100000 in
set_option maxHeartbeats 4000000 in
theorem derive_ok (k m : ByteArray) (n : Nat) (w : World) (hG : Tbl w) (hk : k.size ≤ 1000) (hm : m.size ≤ 1000) (hn : n ≤ 4096) :
    Calls Tryd.prog 33 #[.string k, .string m, .int .i64 (n : Int)] w fun e w' => e = .returned (.tuple #[.string ((dall k m ((n + 31) / 32)).extract 0 n), .int .i64 0]) ∧ Below w.heap.size w w' := by
  have HG := Lib.hid hG
  clear hG
  have hmx : ¬ ((1000 : Int) < max (k.size : Int) (m.size : Int)) := by omega
  refine (callsIn_wide (n := 9)).1 (callsIn_of_wp_marks Tryd.func33 rfl trivial ?_ rfl)
  refine XB.QM_wp ?_
  simp only [Tryd.ntmps33, List.size_toArray, List.length_cons, List.length_nil, Nat.reduceAdd, Nat.reduceSub, Array.replicate_succ, Array.replicate_zero, List.push_toArray, List.append_toArray, List.nil_append, List.cons_append]
  go_wp2_with (go_at_call 52; with_reducible refine (mparts_calls k m _).mono ?_; rintro e W1 ⟨rfl, rfl⟩)
  obtain ⟨M, hM⟩ : ∃ M, M = (n + 31) / 32 := ⟨_, rfl⟩

  generalize hW0 : World.alloc (World.alloc (World.alloc (World.alloc w _) _) _) _ = W0
  have F0 : W0.heap[w.heap.size]? = some (.cells #[.int .i64 (n : Int)] 3 (0, 0)) := by rw [← hW0]; exact (boxes4 w _ _ _ _).1
  have F1 : W0.heap[w.heap.size + 1]? = some (.cells #[.pointer none, .slice none 0 0] 79 (0, 0)) := by rw [← hW0]; exact (boxes4 w _ _ _ _).2.1
  have F2 : W0.heap[w.heap.size + 1 + 1]? = some (.cells #[.string k] 9 (0, 0)) := by rw [← hW0]; exact (boxes4 w _ _ _ _).2.2.1
  have F3 : W0.heap[w.heap.size + 1 + 1 + 1]? = some (.cells #[.string m] 9 (0, 0)) := by rw [← hW0]; exact (boxes4 w _ _ _ _).2.2.2
  have FB : Below w.heap.size w W0 := by rw [← hW0]; exact below_alloc (below_alloc (below_alloc (below_alloc (Below.refl _ _) _) _) _) _
  clear hW0
  have hbld : Lib.IsBuilderF 79 5 w.heap.size (w.heap.size + 1) (Lib.byteCells (dall k m 0).data.toList) W0 := .inl ⟨by omega, _, F1, World.ownsRowF_nil _ _ _ _, by simp [Value.ownBlock]⟩
  refine XB.wp_range1_inf (n := 9) (by omega) (gf := 65) (lb := #[.pointer (some ⟨w.heap.size + 1 + 1, 0, none⟩), .pointer (some ⟨w.heap.size + 1 + 1 + 1, 0, none⟩)]) rfl (enters_of Tryd.func65 (by kernel_rfl) rfl) (fun i => .string (dpart k m (i + 1))) (M + 1) (mparts_seq 8 (by omega) k m hk hm (M + 1) (by omega) w HG.out W0.heap.size (w.heap.size + 1 + 1) (w.heap.size + 1 + 1 + 1)) (.and (.blk _ _ _ _) (.and (.blk _ _ _ _) (.below (Nat.le_refl _) FB.size))) ⟨F2, F3, FB⟩ (fun _ _ h => h.2) km_trans (fun W l o o' h1 hl ho => km_putObj FB.size W l o o' h1 hl ho) (by simp)
    (DInv k m n M w) (fun c _ W => c = .exit 0 ∧ DInv k m n M w M W) (fun W h => absurd h.1 (by omega)) (fun j => dinv_own FB.size) (fun c _ => .and (.pure _) (dinv_own FB.size)) (fun j _ _ hi ht => dinv_tm hi ht) (fun c _ _ _ hi ht => ⟨hi.1, dinv_tm hi.2 ht⟩) ⟨by omega, hbld, F0, FB⟩ ?body ?done ?stop
  case done => exact fun _ _ _ h => absurd h.1 (by omega)
  case body =>
    rintro l j W ⟨hj, hb, h0, hB⟩ hjN
    have hds := dall_size k m hk hm j
    have hps := (dpart_le k m hk hm (j + 1)).2 (by omega)
    have hbl : (Lib.byteCells (dall k m j).data.toList).length = 32 * j := by rw [Lib.byteCells_length, data_length]; exact hds
    have HNX := Lib.hid (show Lib.byteCells (dall k m j).data.toList ++ Lib.strCells (dpart k m (j + 1)) = Lib.byteCells (dall k m (j + 1)).data.toList by
      show _ = Lib.byteCells (dall k m j ++ dpart k m (j + 1)).data.toList
      rw [Lib.strCells_eq, ← Lib.byteCells_append, ByteArray.data_append, Array.toList_append])
    have hlen : ∀ p : XB.In (Below W.heap.size W), Calls Tryd.prog 53 #[.pointer (some ⟨w.heap.size + 1, 0, none⟩)] p.w fun e w' => e = .returned (.int .i64 (32 * (j : Int))) ∧ p.w = w' := fun p => by
      have := Tryd.Builder_Len_f _ _ _ _ (bld_below hb p.h)
      rw [hbl] at this
      refine this.mono ?_
      rintro e w' ⟨rfl, rfl⟩
      exact ⟨by simp, rfl⟩
    have d5 : ∀ p : XB.In (Below W.heap.size W), p.w.cell? ⟨w.heap.size, 0, none⟩ = some (.int .i64 (n : Int)) := fun p => (blk_cell (blk_same h0 p.h) 0).trans rfl
    have HBL := Lib.hid hb
    have H0 := Lib.hid h0
    have HB := Lib.hid hB
    have HLEN := Lib.hid hlen
    have HBS := Lib.hid hbl
    clear hlen hb h0 hB hds hbl
    haveI hne : Nonempty (XB.In (Below W.heap.size W)) := ⟨⟨W.drew, below_drew1 (Below.refl _ _)⟩⟩
    generalize dpart k m (j + 1) = dj at *
    by_cases hjM : j < M
    · have hlt : 32 * (j : Int) < (n : Int) := by omega
      gi_wp2_with fail
      refine XB.round_all (fun w' => ∃ p : XB.In (Below W.heap.size W), w' = p.w) (by kernel_rfl) (by kernel_rfl) (by kernel_rfl) ⟨⟨W.drew, below_drew1 (Below.refl _ _)⟩, rfl⟩ ?_
      iterate 3 quiet_step ((go_at_call 53; with_reducible exact XB.in_same (HLEN.out _)))
      refine wpQuiet_nil ?_
      rintro Y ⟨⟨_, hY⟩, rfl⟩
      have HY := Lib.hid hY
      clear hY
      gi_wp2_with fail
      have hsY : w.heap.size ≤ Y.heap.size := Nat.le_trans HB.out.size HY.out.size
      refine ⟨trivial, ?_⟩
      refine (CallsIn.inRound l (callsIn_wide.2 (Tryd.Builder_WriteString_k w.heap.size (w.heap.size + 1) _ dj _ (bld_below HBL.out HY.out) (by rw [HBS.out, hps]; omega) hsY))).mono ?_
      rintro e W2 ⟨rfl, hb2, hB2, hO2⟩
      rw [HNX.out] at hb2
      gi_wp2
      exact ⟨(keeps_below HY.out).trans (others_keeps hO2 (bld_cells (bld_below HBL.out HY.out)) hB2), ⟨fun cs t fr q ht => others_cells hO2 (blk_same q HY.out) ht (by omega), fun cs t fr q ht => others_cells hO2 (blk_same q HY.out) ht (by omega), fun q => (q.trans (HY.out.mono q.size)).trans hB2⟩, by omega, .inr hb2, others_cells hO2 (blk_same H0.out HY.out) (by decide) (by omega), (HB.out.trans (HY.out.mono HB.out.size)).trans hB2⟩
    · obtain rfl : j = M := by omega
      have hlt : ¬ (32 * (j : Int) < (n : Int)) := by omega
      gi_wp2_with fail
      refine XB.round_all (fun w' => ∃ p : XB.In (Below W.heap.size W), w' = p.w) (by kernel_rfl) (by kernel_rfl) (by kernel_rfl) ⟨⟨W.drew, below_drew1 (Below.refl _ _)⟩, rfl⟩ ?_
      iterate 3 quiet_step ((go_at_call 53; with_reducible exact XB.in_same (HLEN.out _)))
      refine wpQuiet_nil ?_
      rintro Y ⟨⟨_, hY⟩, rfl⟩
      have HY := Lib.hid hY
      clear hY
      gi_wp2
      exact ⟨keeps_below HY.out, rfl, Nat.le_refl _, bld_below HBL.out HY.out, blk_same H0.out HY.out, HB.out.trans (HY.out.mono HB.out.size)⟩
  case stop =>
    rintro D c j W hD hj ⟨rfl, hj2, hb, h0, hB⟩ hDD
    have hds := dall_size k m hk hm M
    have z1 : w.heap.size + 1 < W0.heap.size := blk_lt F1
    have HMM := Lib.hid hM
    have hnT : (n : Int) ≤ ((dall k m M).size : Int) := by omega
    generalize hTe : dall k m M = T at *
    have HTE := Lib.hid hTe
    clear hTe
    have hstr : ∀ p : XB.In (DS n T w D), Calls Tryd.prog 55 #[.pointer (some ⟨w.heap.size + 1, 0, none⟩)] p.w fun e w'' => e = .returned (.string T) ∧ ∃ q : XB.In (DS n T w D), w'' = q.w := fun p => by
      refine (Tryd.Builder_String_any_k w.heap.size (w.heap.size + 1) T.data.toList p.w p.h.2.2.1 p.h.1.size).mono ?_
      rintro e w' ⟨rfl, h1, h2, h3⟩
      exact ⟨by simp, ⟨w', p.h.1.trans h2, others_cells h3 p.h.2.1 (by decide) (by omega), h1, h3 D _ p.h.2.2.2 (by rintro e; cases e; omega) (by rintro c fz e; cases e)⟩, rfl⟩
    have d5 : ∀ p : XB.In (DS n T w D), p.w.cell? ⟨w.heap.size, 0, none⟩ = some (.int .i64 (n : Int)) := fun p => (blk_cell p.h.2.1 0).trans rfl
    have HSTR := Lib.hid hstr
    have hS : DS n T w D W.drew := ⟨below_drew1 hB, h0, hb.elim (fun x => .inl x.drew) (fun x => .inr x.drew), hDD⟩
    have FB' := Lib.hid FB
    clear hstr hb h0 hB hDD hM hds hmx F0 F1 F2 F3 hbld FB
    haveI hne : Nonempty (XB.In (DS n T w D)) := ⟨⟨W.drew, hS⟩⟩
    go_wp2
    refine XB.region_all (fun w' => ∃ p : XB.In (DS n T w D), w' = p.w) (by kernel_rfl) (by kernel_rfl) ⟨⟨W.drew, hS⟩, rfl⟩ ?_
    iterate 5 quiet_step ((go_at_call 55; with_reducible exact HSTR.out _))
    refine wpQuiet_nil ?_
    rintro Y ⟨⟨_, hY⟩, rfl⟩
    have HY := Lib.hid hY
    clear hY d5 hne
    go_wp2
    refine XB.QM_ret (.inl rfl) HY.out.2.2.2 (XB.resultsX_list (rs := [.tmp 6, .tmp 7]) (vs := [.string (T.extract 0 n), .int .i64 0]) rfl (by simp) (.tmp (.tmp .nil))) ⟨?_, (XB.OwnW.below (Nat.le_refl _) FB'.out.size).putObj _ HY.out.1 hD HY.out.2.2.2 rfl⟩
    rw [← HMM.out, HTE.out]
theorem derive_calls (k m : ByteArray) (n : Int) (w : World) (hG : Tbl w) (hn0 : -9223372036854775808 ≤ n) (hn1 : n ≤ 9223372036854775807) :
    Calls Tryd.prog 33 #[.string k, .string m, .int .i64 n] w fun e w' => e = .returned (.tuple #[.string (derH k m n).1, .int .i64 (derH k m n).2]) ∧ Below w.heap.size w w' := by
  unfold derH
  by_cases h : (k.size ≤ 1000 ∧ m.size ≤ 1000) ∧ 0 ≤ n ∧ n ≤ 4096
  · rw [if_pos h]
    obtain ⟨⟨h1, h2⟩, h3, h4⟩ := h
    have := derive_ok k m n.toNat w hG h1 h2 (by omega)
    rw [show ((n.toNat : Nat) : Int) = n by omega] at this
    exact this
  · rw [if_neg h]; exact derive_e k m n w hn0 hn1 h
end Go.Proofs.YtajaobebcmlhaaaDoor.Pr
