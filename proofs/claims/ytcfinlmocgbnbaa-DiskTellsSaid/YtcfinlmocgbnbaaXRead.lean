/-
  What Read answers. No condition.
-/
import Derived.Test.YtcfinlmocgbnbaaXCrash
import Derived.Test.YtcfinlmocgbnbaaXOnce
import Derived.Test.YtcfinlmocgbnbaaXWide
namespace Go.Proofs.Ytcfinlmocgbnbaa.Pr
open Go.RowKit Go.Shelf Go.Proofs.Ytcfinlmocgbnbaa.XB Go.Proofs.YtcfinlmocgbnbaaW.PrintWords Go.Proofs.YtcfinlmocgbnbaaW.PrintLast Go.Proofs.YtcfinlmocgbnbaaW.PrintMore
attribute [local go_sem] Oper.semAt_some
set_option linter.unusedVariables false
set_option linter.unusedSimpArgs false
theorem round_in {F : Fence} {m : Nat} (l' m' : Nat) (hd : F.depth = none) {P : Program} {l : Nat} {f : FuncId} {tmps : Array Value} {assign body : Code} {w : World} {R : Ending → World → Prop}
    (h : RoundIn F m P l f tmps assign body w R) : RoundIn (F.inRound l') m' P l f tmps assign body w R := ⟨h.1, fun c cs _ => h.2 c cs (room_none hd _)⟩
theorem zip_two (p q : Tmp) (x y : Value) (t : Array Value) : ((#[p, q] : Array Tmp).zip #[x, y]).foldl (fun t (p, v) => t.setIfInBounds p v) t = (t.setIfInBounds p x).setIfInBounds q y := by simp
def mvV (m : S24) : Value := .agg #[.bool m.f0, .int .i64 m.f1, .string m.f2]
set_option maxRecDepth 100000 in
set_option maxHeartbeats 4000000 in
theorem back_seq (m : Nat) (hm : 1 ≤ m) (w0 : World) (b1 : Nat) (A : Option Addr) (c : Nat) (so : List S24)
    (h1 : w0.heap[b1]? = some (.cells #[.slice A so.length c] 28 (0, 0))) (hr : Kd.C k24 w0 A so.length so) (hc : so.length ≤ c) (hso : so.length ≤ 1000000) :
    IterSeq Fence.wide m Try.prog 90 #[.pointer (some ⟨b1, 0, none⟩)] (fun k => #[.int .i64 ((so.length : Int) - 1 - k), mvV (rd_T24 so ((so.length : Int) - 1 - k))]) so.length (fun W => Below w0.heap.size w0 W) (fun A B => A = B) (fun A B => Below w0.heap.size A B) := by
  intro l J Jx W hS hJT hJxT hY h0
  have hcell : ∀ W', Below w0.heap.size w0 W' → W'.cell? ⟨b1, 0, none⟩ = some (.slice A so.length c) := fun W' hb => (blk_cell (blk_same h1 hb) 0).trans rfl
  have c1 := hcell W hS
  refine callsIn_of_wp Try.func90 rfl trivial ?_ rfl
  simp only [Try.ntmps90, List.size_toArray, List.length_cons, List.length_nil, Nat.reduceAdd, Nat.reduceSub, Array.replicate_succ, Array.replicate_zero, List.push_toArray, List.append_toArray, List.nil_append, List.cons_append]
  gi_wp2
  gi_loopw [3] (fun v wr => ∃ k : Nat, k ≤ so.length ∧ v = .int .i64 ((so.length : Int) - 1 - k) ∧ J k wr ∧ Below w0.heap.size w0 wr)
    (fun v _ => (intOf v + 1).toNat)
  case atStart => exact ⟨0, by omega, by simp, h0, hS⟩
  case round =>
    obtain ⟨k, hk, rfl, hJs, hB⟩ := hrel
    clear c1
    have c1 := hcell wr hB
    by_cases hlt : k < so.length
    · obtain ⟨i, hi⟩ : ∃ i : Nat, (so.length : Int) - 1 - k = i := ⟨so.length - 1 - k, by omega⟩
      obtain ⟨ad, rfl, r0, r1, r2⟩ := at_T24 hr (i : Int) (by omega) (by omega)
      have q0 := (hB.cell (World.block_lt_of_cell? w0 _ r0)).trans r0
      have q1 := (hB.cell (World.block_lt_of_cell? w0 _ r1)).trans r1
      have q2 := (hB.cell (World.block_lt_of_cell? w0 _ r2)).trans r2
      simp only [Int.toNat_natCast] at q0 q1 q2
      obtain ⟨fn, tmps, assign, body, hy, hR⟩ := hY k wr hJs hlt
      have HI := Lib.hid hi
      rw [hi] at hy ⊢
      unfold mvV at hy
      have hi0 : (0 : Int) ≤ i := by omega
      have hi1 : (i : Int) < so.length := by omega
      clear r0 r1 r2 hi
      gi_wp2
      refine hR.mono ?_
      rintro e W3 (⟨rfl, hJ3, hk3⟩ | ⟨rfl, hJx3⟩)
      · have hw : wrap64 ((i : Int) - 1) = (so.length : Int) - 1 - ((k + 1 : Nat) : Int) := by have := HI.out; unfold wrap64; omega
        have hme : (so.length : Int) - 1 - ((k + 1 : Nat) : Int) + 1 < (i : Int) + 1 := by have := HI.out; omega
        have HW := Lib.hid hw
        have HME := Lib.hid hme
        clear hw hme q0 q1 q2 c1
        gi_wp2
        go_roundw
        case rel => exact ⟨k + 1, by omega, congrArg (Value.int .i64) (by first | exact HW.out | (have := HI.out; omega)), hJ3, hB.trans hk3⟩
        case measure => simp [intOf]
      · gi_wp2
        refine bodyPost_ret (results_none rfl _ _ _) rfl ?_
        exact ⟨⟨_, rfl⟩, .inr ⟨k + 1, by omega, hJx3⟩⟩
    · obtain rfl : k = so.length := by omega
      have hneg : ¬ (0 : Int) ≤ (so.length : Int) - 1 - (so.length : Int) := by omega
      gi_wp2
      go_end0
      exact ⟨⟨_, rfl⟩, .inl hJs⟩
theorem backF_calls (A : Option Addr) (n c : Nat) (w : World) : Calls Try.prog 75 #[.slice A n c] w fun e w' => e = .returned (.func (.func 90) #[] #[.pointer (some ⟨w.heap.size, 0, none⟩)]) ∧ w' = w.alloc (.cells #[.slice A n c] 28) := by
  go_enter Try.func75, Try.ntmps75
  go_wp2
  go_ret
  exact ⟨rfl, rfl⟩
theorem last_none {su : List ByteArray} {so : List S24} {b : Int} (h : ∀ j, (hj : j < so.length) → so[j].f1 ≠ b) : lastB su so b = rdOf ByteArray.empty su b := by
  unfold lastB
  rw [List.find?_eq_none.2]
  intro x hx
  obtain ⟨j, hj, rfl⟩ := List.getElem_of_mem (List.mem_reverse.1 hx)
  simpa using h j hj
theorem last_some {su : List ByteArray} {so : List S24} {b : Int} {i : Nat} (hi : i < so.length) (hb : so[i].f1 = b) (h : ∀ j, (hj : j < so.length) → i < j → so[j].f1 ≠ b) : lastB su so b = so[i].f2 := by
  unfold lastB
  have : so.reverse.find? (fun m => decide (m.f1 = b)) = some so[i] := by
    rw [List.find?_eq_some_iff_getElem]
    refine ⟨by simpa using hb, so.length - 1 - i, by simp; omega, ?_, ?_⟩
    · rw [List.getElem_reverse]
      congr 1
      omega
    · intro j hj
      rw [List.getElem_reverse]
      simpa using h _ (by omega) (by omega)
  rw [this]
set_option maxRecDepth 100000 in
set_option maxHeartbeats 4000000 in
theorem latest_once (m : Nat) (hm : 5 ≤ m) (w0 : World) (b1 b2 : Nat) (A0 : Option Addr) (c0 : Nat) (su : List ByteArray) (A1 : Option Addr) (c1 : Nat) (so : List S24) (b : Int)
    (h1 : w0.heap[b1]? = some (.cells #[.slice A0 su.length c0, .slice A1 so.length c1] 30 (0, 0))) (h2 : w0.heap[b2]? = some (.cells #[.int .i64 b] 3 (0, 0)))
    (hr0 : Kd.C Kd.string w0 A0 su.length su) (hr1 : Kd.C k24 w0 A1 so.length so) (hc1 : so.length ≤ c1) (hso : so.length ≤ 1000000) (hb0 : 0 ≤ b) (hb1 : b < su.length) :
    IterOnce Fence.wide m Try.prog 74 #[.pointer (some ⟨b1, 0, none⟩), .pointer (some ⟨b2, 0, none⟩)] #[.string (lastB su so b)] (fun W => Below w0.heap.size w0 W) := by
  intro l J Jx W hS hJ hJx hY h0
  refine callsIn_of_wp_marks Try.func74 rfl trivial ?_ rfl
  simp only [Try.ntmps74, List.size_toArray, List.length_cons, List.length_nil, Nat.reduceAdd, Nat.reduceSub, Array.replicate_succ, Array.replicate_zero, List.push_toArray, List.append_toArray, List.nil_append, List.cons_append]
  have d1 : ∀ X, Below w0.heap.size w0 X → X.cell? ⟨b1, 0, none⟩ = some (.slice A0 su.length c0) ∧ X.cell? ⟨b1, 1, none⟩ = some (.slice A1 so.length c1) ∧ X.cell? ⟨b2, 0, none⟩ = some (.int .i64 b) := fun X hX => ⟨(blk_cell (blk_same h1 hX) 0).trans rfl, (blk_cell (blk_same h1 hX) 1).trans rfl, (blk_cell (blk_same h2 hX) 0).trans rfl⟩
  have hSA : ∀ o, Below w0.heap.size w0 (W.alloc o) := fun o => below_alloc hS o
  have k1 := fun o => (d1 _ (hSA o)).2.1
  gi_wp2_with fail
  refine ⟨trivial, (fun _ => by omega), (callsIn_wide.2 (backF_calls A1 so.length c1 _)).mono ?_⟩
  rintro e U ⟨rfl, hU⟩
  have BY : U.heap[W.heap.size]? = some (.cells #[.func (.yield l) #[] #[]] 79 (0, 0)) := by rw [hU]; exact heap_alloc2_old W _ _
  have B28 : U.heap[W.heap.size + 1]? = some (.cells #[.slice A1 so.length c1] 28 (0, 0)) := by rw [hU]; exact heap_alloc2_new W _ _
  have HU : Below W.heap.size W U := by rw [hU]; exact below_alloc (below_alloc (Below.refl W.heap.size W) _) _
  have HBU : Below w0.heap.size w0 U := hS.trans (HU.mono hS.size)
  have hz : W.heap.size + 1 < U.heap.size := blk_lt B28
  have hJU := hJ _ _ h0 HU
  rw [show (W.alloc (.cells #[.func (.yield l) #[] #[]] 79)).heap.size = W.heap.size + 1 from World.size_alloc _ _]
  have HHU := Lib.hid hU
  clear hU k1
  gi_wp2_with fail
  clear HHU
  have hgrow : ∀ (A B : World) (row : Option Nat), A.grownBy B row → (∀ r, row = some r → U.heap.size ≤ r) → U.heap.size ≤ A.heap.size → Below U.heap.size A B := fun A B row hg hr hs => Below.grown (Below.refl _ A) hg hs (fun k e => hr k e)
  refine wpIn_rangeFunc_seq2 (n := m) (F := Fence.wide) rfl (by omega) (gf := 90) (lb := #[.pointer (some ⟨W.heap.size + 1, 0, none⟩)]) rfl trivial (enters_of Try.func90 (by kernel_rfl) rfl)
    (back_seq (m - 1) (by omega) U (W.heap.size + 1) A1 c1 so B28 (Kd.C_below hr1 HBU) hc1 hso) (.below (Nat.le_refl _) (Nat.le_refl _)) (Below.refl _ _) (fun A B e => by rw [e]; exact KeepsFrom.refl _ _)
    (fun {A B C} h k => h.trans k) (fun X_ l_ o o' hl ho _ => Below.grown (Below.refl _ X_) (grownBy_putObj' X_ l_ o') (Nat.le_of_lt (Nat.lt_of_le_of_lt hl (blk_lt ho))) (fun k e => by cases e; exact hl)) (fun _ => rfl)
    (fun k X => U.heap.size ≤ X.heap.size ∧ J X ∧ Below U.heap.size U X ∧ ∀ j, (hj : j < so.length) → so.length ≤ j + k → so[j].f1 ≠ b)
    (fun c k X => U.heap.size ≤ X.heap.size ∧ c = .ret ∧ Jx X)
    (fun k A B row h hg hr => ⟨Nat.le_trans h.1 hg.size, hJ _ _ h.2.1 ((hgrow _ _ _ hg (fun r e => (hr r e).1) h.1).mono (by omega)), h.2.2.1.trans (hgrow _ _ _ hg (fun r e => (hr r e).1) h.1), h.2.2.2⟩)
    (fun c k A B row h hg hr => ⟨Nat.le_trans h.1 hg.size, h.2.1, hJx _ _ h.2.2 ((hgrow _ _ _ hg (fun r e => (hr r e).1) h.1).mono (by omega))⟩)
    (fun k A B h e => by rw [← e]; exact h) (fun c k A B h e => by rw [← e]; exact h)
    ⟨Nat.le_refl _, hJU, Below.refl _ _, fun j hj hk => absurd hk (by omega)⟩
    (fun k a' X => ∃ g5 : Nat, a' = ⟨#[.func (.yield l) #[] #[], .pointer (some ⟨b1, 0, none⟩), .pointer (some ⟨b2, 0, none⟩), .pointer (some ⟨W.heap.size, 0, none⟩), undef, .pointer (some ⟨g5, 0, none⟩), .pointer (some ⟨b1, 1, none⟩), .slice A1 so.length c1, .func (.func 90) #[] #[.pointer (some ⟨W.heap.size + 1, 0, none⟩)], .int .i64 ((so.length : Int) - 1 - k), mvV (rd_T24 so ((so.length : Int) - 1 - k)), undef, undef, undef, undef, undef, undef, undef, undef, undef, undef, undef, undef, undef, undef, undef, undef, undef, undef], []⟩ ∧
      X.heap[g5]? = some (.cells #[.bool (rd_T24 so ((so.length : Int) - 1 - k)).f0, .int .i64 (rd_T24 so ((so.length : Int) - 1 - k)).f1, .string (rd_T24 so ((so.length : Int) - 1 - k)).f2] 24 (0, 0)))
    (fun k a' => .ex fun g5 => .and (.pure _) (.blk _ _ _ _)) ?assign ?body ?done ?stop
  case assign =>
    rintro l' k X K ⟨hx0, hj, hbu, hno⟩ hk hK
    rw [zip_two]
    show Code.wpIn (Fence.wide.inRound l') (m - 1 - 1) Try.prog _ _ ⟨#[.func (.yield l) #[] #[], .pointer (some ⟨b1, 0, none⟩), .pointer (some ⟨b2, 0, none⟩), .pointer (some ⟨W.heap.size, 0, none⟩), undef, undef, .pointer (some ⟨b1, 1, none⟩), .slice A1 so.length c1, .func (.func 90) #[] #[.pointer (some ⟨W.heap.size + 1, 0, none⟩)], .int .i64 ((so.length : Int) - 1 - k), mvV (rd_T24 so ((so.length : Int) - 1 - k)), undef, undef, undef, undef, undef, undef, undef, undef, undef, undef, undef, undef, undef, undef, undef, undef, undef, undef], []⟩ X
    have hK' := Lib.hid hK
    clear hK
    unfold mvV
    generalize rd_T24 so ((so.length : Int) - 1 - k) = mv at *
    gi_wp2
    have hba := (Below.refl U.heap.size X).alloc hx0 (.cells #[.bool mv.f0, .int .i64 mv.f1, .string mv.f2] 24)
    exact hK'.out _ _ (keeps_below (below_alloc (Below.refl X.heap.size X) _)) hba ⟨Nat.le_trans hx0 (by simp), hJ _ _ hj (hba.mono (by omega)), hbu.trans hba, hno⟩ ⟨_, rfl, heap_alloc_new _ _⟩
  case body =>
    rintro l' k a' X ⟨hx0, hj, hbu, hno⟩ ⟨g5, rfl, h5⟩ hk
    obtain ⟨i, hi⟩ : ∃ i : Nat, (so.length : Int) - 1 - k = i := ⟨so.length - 1 - k, by omega⟩
    have hil : i < so.length := by omega
    have hik : i + k + 1 = so.length := by omega
    have hnext : so[i].f1 ≠ b → ∀ j, (hj : j < so.length) → so.length ≤ j + (k + 1) → so[j].f1 ≠ b := fun h j hj hjk => by
      by_cases e : j = i
      · subst e; exact h
      · exact hno j hj (by omega)
    have hlast : so[i].f1 = b → lastB su so b = so[i].f2 := fun h => last_some hil h (fun j hj hij => hno j hj (by omega))
    rw [hi] at h5 ⊢
    rw [rd24_get hil] at h5 ⊢
    generalize so[i] = mv at *
    have e3 : X.cell? ⟨W.heap.size, 0, none⟩ = some (.func (.yield l) #[] #[]) := (blk_cell (blk_same BY hbu) 0).trans rfl
    have e1 : X.cell? ⟨g5, 1, none⟩ = some (.int .i64 mv.f1) := (blk_cell h5 1).trans rfl
    have e2 : X.cell? ⟨g5, 2, none⟩ = some (.string mv.f2) := (blk_cell h5 2).trans rfl
    have e4 := (d1 X (HBU.trans (hbu.mono HBU.size))).2.2
    by_cases hb : mv.f1 = b
    · obtain ⟨fn, tmps, assign, body, hy, hR⟩ := hY X hj
      rw [hlast hb] at hy
      have hbb : (mv.f1 == b) = true := by simpa using hb
      have HKK := Lib.hid (show ∀ X', KK W.heap.size X X' → KeepsFrom U.heap.size X X' from fun X' h => (h.mono (by omega)).keeps)
      have HX0 := Lib.hid hx0
      clear hlast hnext hno hb hbu h5 hi hik hY hj
      gi_wp2
      refine ⟨fun _ => by omega, (round_in l' (m - 1 - 1 - 1) rfl hR).mono ?_⟩
      rintro e X' ⟨rfl, hjx, hkk⟩
      have HJX := Lib.hid hjx
      have HK2 := Lib.hid hkk
      clear hjx hkk e1 e2 e3 e4 hy hR
      gi_wp2
      exact ⟨HKK.out _ HK2.out, Nat.le_trans HX0.out HK2.out.1, rfl, HJX.out⟩
    · have hbb : (mv.f1 == b) = false := by simpa using hb
      have HN := Lib.hid (hnext hb)
      have HJ := Lib.hid hj
      have HBU2 := Lib.hid hbu
      clear hlast hnext hno hb hi hik hY hj hbu
      have HX0 := Lib.hid hx0
      gi_wp2_with fail
      refine ⟨(fun _ _ => trivial), ?_⟩
      clear hx0
      gi_wp2
      first | exact ⟨KeepsFrom.refl _ _, Below.refl _ _, HX0.out, HJ.out, HBU2.out, HN.out⟩ | exact ⟨KeepsFrom.refl _ _, Below.refl _ _, HJ.out, HBU2.out, HN.out⟩
  case done =>
    rintro D X hD ⟨hx0, hj, hbu, hno⟩ hdef
    gi_wp2_with fail
    have hlast : lastB su so b = rdOf ByteArray.empty su b := last_none (fun j hj => hno j hj (by omega))
    have hXd : Below w0.heap.size w0 X.drew := HBU.trans ((below_drew1 hbu).mono HBU.size)
    obtain ⟨ad, rfl, r0⟩ := Kd.at_string (Kd.C_below hr0 hXd) b hb0 hb1
    have e3 : X.drew.cell? ⟨W.heap.size, 0, none⟩ = some (.func (.yield l) #[] #[]) := (blk_cell (blk_same BY (below_drew1 hbu)) 0).trans rfl
    obtain ⟨e4, e5, e6⟩ := d1 X.drew hXd
    have hjd : J X.drew := hJ _ _ hj (below_drew1 (Below.refl W.heap.size X))
    have HDE := Lib.hid (show X.drew.heap[D]? = some (.deferred (some [])) from hdef)
    have HX0 := Lib.hid (show U.heap.size ≤ X.drew.heap.size from hx0)
    have HDL := Lib.hid (show D < X.drew.heap.size from blk_lt hdef)
    obtain ⟨fn, tmps, assign, body, hy, hR⟩ := hY X.drew hjd
    rw [hlast] at hy
    have HR := Lib.hid hR
    have HY := Lib.hid hy
    clear hj hbu hno hdef hjd hlast hy hR hx0
    refine XB.wide_tail (fun w' => w' = X.drew) 6 (by kernel_rfl) (by kernel_rfl) (by kernel_rfl) rfl ?_
    simp only [List.take_succ_cons, List.take_zero, List.drop_succ_cons, List.drop_zero]
    generalize X.drew = Y at *
    iterate 6 refine XB.quiet_op _ (by rfl) (by rintro w' rfl; go_simp; with_reducible rfl) ?_
    refine wpQuiet_nil ?_
    rintro Z rfl
    have hy := HY.out
    gi_wp2_with fail
    refine ⟨fun _ => by omega, HR.out.mono ?_⟩
    rintro e X' ⟨rfl, hjx, hkk⟩
    have hz2 := HX0.out
    have hdf : X'.heap[D]? = some (.deferred (some [])) := (hkk.2 D (by omega) HDL.out).trans HDE.out
    have hput := hJx _ _ hjx (Below.grown (Below.refl W.heap.size X') (grownBy_putObj' X' D (.deferred none)) (Nat.le_trans (by omega) hkk.1) (fun k e => by cases e; omega))
    have HP := Lib.hid hput
    have HDF := Lib.hid hdf
    clear hput hdf hjx hkk hy hz2 e3 e4 e5 e6 r0
    gi_wp2_with fail
    exact XB.M_ret (.inr rfl) HDF.out (results_none rfl _ _ _) ⟨⟨_, rfl⟩, HP.out⟩
  case stop =>
    rintro D c k X hD hk ⟨hx0, rfl, hjx⟩ hdef
    have hput := hJx _ _ hjx (Below.grown (Below.refl W.heap.size X) (grownBy_putObj' X D (.deferred none)) (by omega) (fun k e => by cases e; omega))
    have HP := Lib.hid hput
    have HDF := Lib.hid hdef
    clear hput hdef hjx
    gi_wp2_with fail
    exact XB.M_ret (.inl rfl) HDF.out (results_none rfl _ _ _) ⟨⟨_, rfl⟩, HP.out⟩
theorem latest_calls (A0 : Option Addr) (c0 : Nat) (n0 : Nat) (A1 : Option Addr) (c1 n1 : Nat) (b : Int) (w : World) : Calls Try.prog 49 #[.agg #[.slice A0 n0 c0, .slice A1 n1 c1], .int .i64 b] w fun e w' =>
    e = .returned (.func (.func 74) #[] #[.pointer (some ⟨w.heap.size, 0, none⟩), .pointer (some ⟨w.heap.size + 1, 0, none⟩)]) ∧ w' = (w.alloc (.cells #[.slice A0 n0 c0, .slice A1 n1 c1] 30)).alloc (.cells #[.int .i64 b] 3) := by
  go_enter Try.func49, Try.ntmps49
  go_wp2
  go_ret
  exact ⟨rfl, rfl⟩
def disk_Read.f (l0_0 : List ByteArray) (l0_1 : List (S24)) (a1 : Int) : Option (ByteArray × Int) := some (readB l0_0 l0_1 a1)
theorem vals_read {tmps : Array Value} {w : World} {g4 g5 : Nat} {s : ByteArray} {e : Int} (h4 : tmps.getD 4 undef = .pointer (some ⟨g4, 0, none⟩)) (h5 : tmps.getD 5 undef = .pointer (some ⟨g5, 0, none⟩)) (b4 : w.heap[g4]? = some (.cells #[.string s] 9 (0, 0))) (b5 : w.heap[g5]? = some (.cells #[.int .i64 e] 31 (0, 0))) :
    (results Try.f22 tmps).run Try.prog w = .ok (.tuple #[.string s, .int .i64 e]) w :=
  XB.resultsX_list (rs := [.cell 4 9, .cell 5 31]) rfl (by simp) (.one _ _ _ _ _ h4 b4 Try.underlying9 rfl (.one _ _ _ _ _ h5 b5 Try.underlying31 rfl .nil))
set_option maxRecDepth 100000 in
set_option maxHeartbeats 4000000 in
theorem disk_Read.calls (A0_0 : Option Addr) (c0_0 : Nat) (l0_0 : List ByteArray) (A0_1 : Option Addr) (c0_1 : Nat) (l0_1 : List (S24)) (a1 : Int) (r1 : ByteArray) (r2 : Int) (w : World) (hr0_0 : Kd.C Kd.string w A0_0 l0_0.length l0_0) (hc0_0 : l0_0.length ≤ c0_0) (hr0_1 : Kd.C k24 w A0_1 l0_1.length l0_1) (hc0_1 : l0_1.length ≤ c0_1) (h : disk_Read.f l0_0 l0_1 a1 = some (r1, r2)) :
    Calls Try.prog 22 #[.agg #[.slice A0_0 l0_0.length c0_0, .slice A0_1 l0_1.length c0_1], .int .i64 a1] w fun e w' => e = .returned (.tuple #[.string r1, .int .i64 r2]) ∧ Below w.heap.size w w' := by
  have H := Option.some.inj h
  clear h
  have HR0 := Lib.hid hr0_0
  have HR1 := Lib.hid hr0_1
  clear hr0_0 hr0_1
  have HRC := Lib.hid (fun W (hW : Below w.heap.size w W) => disk_Right.calls A0_0 c0_0 l0_0 A0_1 c0_1 l0_1 _ W (Kd.C_below HR0.out hW) hc0_0 (Kd.C_below HR1.out hW) hc0_1 rfl)
  unfold readB at H
  refine (callsIn_wide (n := 9)).1 (callsIn_of_wp_marks Try.func22 rfl trivial ?_ rfl)
  simp only [Try.ntmps22, List.size_toArray, List.length_cons, List.length_nil, Nat.reduceAdd, Nat.reduceSub, Array.replicate_succ, Array.replicate_zero, List.push_toArray, List.append_toArray, List.nil_append, List.cons_append]
  gi_wp2_with fail
  generalize hU : World.alloc (World.alloc (World.alloc w _) _) _ = U
  obtain ⟨b1, b2, b3⟩ : U.heap[w.heap.size]? = some (.cells #[.slice A0_0 l0_0.length c0_0, .slice A0_1 l0_1.length c0_1] 30 (0, 0)) ∧ U.heap[w.heap.size + 1]? = some (.cells #[.string ⟨#[]⟩] 9 (0, 0)) ∧ U.heap[w.heap.size + 2]? = some (.cells #[.int .i64 0] 31 (0, 0)) := by rw [← hU]; exact boxes3 w _ _ _
  have HB : Below w.heap.size w U := by rw [← hU]; exact below_alloc (below_alloc (below_alloc (Below.refl w.heap.size w) _) _) _
  clear hU
  refine ⟨trivial, (callsIn_wide.2 (HRC.out U HB)).mono ?_⟩
  rintro e W1 ⟨rfl, hb⟩
  have b1' := blk_same b1 hb
  have b2' := blk_same b2 hb
  have b3' := blk_same b3 hb
  have B1 := Lib.hid b1'
  have B2 := Lib.hid b2'
  have B3 := Lib.hid b3'
  have HB1 := Lib.hid (HB.trans (hb.mono HB.size))
  have k0 : W1.cell? ⟨w.heap.size, 0, none⟩ = some (.slice A0_0 l0_0.length c0_0) := (blk_cell b1' 0).trans rfl
  have k1 : W1.cell? ⟨w.heap.size, 1, none⟩ = some (.slice A0_1 l0_1.length c0_1) := (blk_cell b1' 1).trans rfl
  have j2 : W1.cell? ⟨w.heap.size + 1, 0, none⟩ = some (.string ⟨#[]⟩) := (blk_cell b2' 0).trans rfl
  have j3 : W1.cell? ⟨w.heap.size + 2, 0, none⟩ = some (.int .i64 0) := (blk_cell b3' 0).trans rfl
  have f2 := blk_frozen b2' 0
  have f3 := blk_frozen b3' 0
  clear b1 b2 b3 b1' b2' b3' hb HB U
  by_cases hok : rightB l0_0 l0_1 = true ∧ 0 ≤ a1 ∧ a1 < l0_0.length
  · rw [if_pos hok] at H
    simp only [Prod.mk.injEq] at H
    obtain ⟨rfl, rfl⟩ := H
    obtain ⟨hr, h0, h1⟩ := hok
    have HS := right_iff.1 hr
    have hso : l0_1.length ≤ 1000000 := by have := HS.few; omega
    rw [hr]
    clear HS hr j2 j3 f2 f3
    gi_wp2_with fail
    refine ⟨trivial, (callsIn_wide.2 (latest_calls A0_0 c0_0 l0_0.length A0_1 c0_1 l0_1.length a1 W1)).mono ?_⟩
    rintro e W2 ⟨rfl, hW2⟩
    have hb2 : Below W1.heap.size W1 W2 := by rw [hW2]; exact below_alloc (below_alloc (Below.refl W1.heap.size W1) _) _
    have L1 : W2.heap[W1.heap.size]? = some (.cells #[.slice A0_0 l0_0.length c0_0, .slice A0_1 l0_1.length c0_1] 30 (0, 0)) := by rw [hW2]; exact heap_alloc2_old W1 _ _
    have L2 : W2.heap[W1.heap.size + 1]? = some (.cells #[.int .i64 a1] 3 (0, 0)) := by rw [hW2]; exact heap_alloc2_new W1 _ _
    have C2 := blk_same B2.out hb2
    have C3 := blk_same B3.out hb2
    have HBW := HB1.out.trans (hb2.mono HB1.out.size)
    have z1 : w.heap.size + 2 < W2.heap.size := blk_lt C3
    have hseq := latest_once 8 (by omega) W2 W1.heap.size (W1.heap.size + 1) A0_0 c0_0 l0_0 A0_1 c0_1 l0_1 a1 L1 L2 (Kd.C_below HR0.out HBW) (Kd.C_below HR1.out HBW) hc0_1 hso h0 h1
    obtain ⟨LB, hLB⟩ : ∃ LB, LB = lastB l0_0 l0_1 a1 := ⟨_, rfl⟩
    rw [← hLB] at hseq
    have HLB := Lib.hid hLB
    clear hLB
    have HSEQ := Lib.hid hseq
    have HC2 := Lib.hid C2
    have HC3 := Lib.hid C3
    have HHB := Lib.hid HBW
    clear hseq C2 C3 HBW hb2 hW2 L1 L2 k0 k1
    generalize W1.heap.size = gl at *
    clear B1 B2 B3 HB1 W1
    gi_wp2_with fail
    refine wp_range1_once (n := 9) (F := Fence.wide) rfl (by omega) (gf := 74) (lb := #[.pointer (some ⟨gl, 0, none⟩), .pointer (some ⟨gl + 1, 0, none⟩)]) rfl trivial (enters_of Try.func74 (by kernel_rfl) rfl) (.string LB) HSEQ.out (fun A B h k => h.trans k) (Below.refl _ _) (by simp)
      (fun X => X.heap[w.heap.size + 1]? = some (.cells #[.string ⟨#[]⟩] 9 (0, 0)) ∧ X.heap[w.heap.size + 2]? = some (.cells #[.int .i64 0] 31 (0, 0)) ∧ Below w.heap.size w X)
      (fun X => X.heap[w.heap.size + 1]? = some (.cells #[.string LB] 9 (0, 0)) ∧ X.heap[w.heap.size + 2]? = some (.cells #[.int .i64 0] 31 (0, 0)) ∧ Below w.heap.size w X)
      (fun A B h k => ⟨(k.block _ (by omega)).trans h.1, (k.block _ (by omega)).trans h.2.1, h.2.2.trans (k.mono (by omega))⟩)
      (fun A B h k => ⟨(k.block _ (by omega)).trans h.1, (k.block _ (by omega)).trans h.2.1, h.2.2.trans (k.mono (by omega))⟩)
      ⟨HC2.out, HC3.out, HHB.out⟩ ?body ?stop
    case body =>
      rintro l X ⟨g1, g2, gB⟩
      have q1 : X.cell? ⟨w.heap.size + 1, 0, none⟩ = some (.string ⟨#[]⟩) := (blk_cell g1 0).trans rfl
      have q2 : X.cell? ⟨w.heap.size + 1 + 1, 0, none⟩ = some (.int .i64 0) := (blk_cell g2 0).trans rfl
      have q3 := blk_frozen g1 0
      have q4 := blk_frozen g2 0
      have G1 := Lib.hid g1
      have G2 := Lib.hid g2
      have GB := Lib.hid gB
      have Z1 := Lib.hid z1
      clear g1 g2 gB z1
      gi_wp2
      have z1 := Z1.out
      exact ⟨(KK.set ⟨w.heap.size + 1, 0, none⟩ _ (by show w.heap.size + 1 < _; omega)).trans (KK.set ⟨w.heap.size + 2, 0, none⟩ _ (by show w.heap.size + 2 < _; omega)), blk_far (blk_set G1.out 0 _) (by show w.heap.size + 1 ≠ w.heap.size + 2; omega) _, blk_set (blk_far G2.out (by show w.heap.size + 2 ≠ w.heap.size + 1; omega) _) 0 _, (GB.out.setCell (by show w.heap.size ≤ w.heap.size + 1; omega) _).setCell (by show w.heap.size ≤ w.heap.size + 2; omega) _⟩
    case stop =>
      rintro D X hD ⟨g1, g2, gB⟩ hdef
      have hne1 : w.heap.size + 1 ≠ D := by omega
      have hne2 : w.heap.size + 2 ≠ D := by omega
      have P1 := Lib.hid (show (X.putObj D (.deferred none)).heap[w.heap.size + 1]? = some (.cells #[.string LB] 9 (0, 0)) from (World.putObj_heap_other hne1).trans g1)
      have P2 := Lib.hid (show (X.putObj D (.deferred none)).heap[w.heap.size + 2]? = some (.cells #[.int .i64 0] 31 (0, 0)) from (World.putObj_heap_other hne2).trans g2)
      have P3 := Lib.hid (show Below w.heap.size w (X.putObj D (.deferred none)) from gB.trans (Below.grown (Below.refl w.heap.size X) (grownBy_putObj' X D _) gB.size (fun k e => by cases e; omega)))
      have HDF := Lib.hid hdef
      clear g1 g2 gB hdef
      gi_wp2
      exact XB.M_ret (.inl rfl) HDF.out (vals_read rfl rfl P1.out P2.out) ⟨by rw [HLB.out], P3.out⟩
  · rw [if_neg hok] at H
    simp only [Prod.mk.injEq] at H
    obtain ⟨rfl, rfl⟩ := H
    have h3 : rightB l0_0 l0_1 = false ∨ (rightB l0_0 l0_1 = true ∧ a1 < 0) ∨ (rightB l0_0 l0_1 = true ∧ ¬ a1 < 0 ∧ (l0_0.length : Int) ≤ a1) := by
      cases hr : rightB l0_0 l0_1
      · exact .inl rfl
      · rw [hr] at hok
        simp only [true_and] at hok
        by_cases ha : a1 < 0
        · exact .inr (.inl ⟨rfl, ha⟩)
        · exact .inr (.inr ⟨rfl, ha, by omega⟩)
    clear hok
    rcases h3 with hr | ⟨hr, ha⟩ | ⟨hr, ha, hb⟩ <;> (
      rw [hr]
      clear hr
      gi_wp2
      exact XB.M_of (bodyPost_ret (vals_read rfl rfl (blk_far (blk_set B2.out 0 _) (by show w.heap.size + 1 ≠ w.heap.size + 2; omega) _) (blk_set (blk_far B3.out (by show w.heap.size + 2 ≠ w.heap.size + 1; omega) _) 0 _)) rfl ⟨rfl, (HB1.out.setCell (by show w.heap.size ≤ w.heap.size + 1; omega) _).setCell (by show w.heap.size ≤ w.heap.size + 2; omega) _⟩))
end Go.Proofs.Ytcfinlmocgbnbaa.Pr
