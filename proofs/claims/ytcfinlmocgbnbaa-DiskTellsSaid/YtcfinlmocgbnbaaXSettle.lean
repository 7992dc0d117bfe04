/-
  What settle leaves: each thing written put to its block. Condition: what is written fits; the function that is given keeps to its contract.
-/
import Derived.Test.YtcfinlmocgbnbaaXD0
import Derived.Test.YtcfinlmocgbnbaaXQuiet
import Derived.Test.YtcfinlmocgbnbaaXRange2
import Derived.Test.YtcfinlmocgbnbaaXClone
namespace Go.Proofs.Ytcfinlmocgbnbaa.Pr
open Go.RowKit Go.Shelf Go.Proofs.Ytcfinlmocgbnbaa.XB Go.Proofs.YtcfinlmocgbnbaaW.PrintWords
attribute [local go_sem] Oper.semAt_some
set_option linter.unusedVariables false
set_option linter.unusedSimpArgs false
/-- What is written fits: its block is there, all are of 64 bytes. -/
structure Fits (su : List ByteArray) (so : List S24) : Prop where
  blk : ∀ m ∈ so, 0 ≤ m.f1 ∧ m.f1 < su.length
  byt : ∀ m ∈ so, m.f2.size = 64
  sur : ∀ s ∈ su, s.size = 64
theorem rdS_size {su : List ByteArray} (h : ∀ s ∈ su, s.size = 64) {b : Int} (h0 : 0 ≤ b) (h1 : b < su.length) : (rdOf ByteArray.empty su b).size = 64 := by
  obtain ⟨k, rfl⟩ : ∃ k : Nat, b = k := ⟨b.toNat, by omega⟩
  rw [rdS_get (by omega)]
  exact h _ (List.getElem_mem _)
theorem put1_len (su : List ByteArray) (m : S24) (n : Int) : (put1 su m n).length = su.length := by simp [put1]
theorem put1_sur {su : List ByteArray} {m : S24} {n : Int} (h : ∀ s ∈ su, s.size = 64) (hb : 0 ≤ m.f1 ∧ m.f1 < su.length) (hm : m.f2.size = 64) (h0 : 0 ≤ n) (h1 : n ≤ 64) : ∀ s ∈ put1 su m n, s.size = 64 := by
  intro s hs
  unfold put1 at hs
  rcases List.mem_or_eq_of_mem_set hs with hs | rfl
  · exact h s hs
  · rw [ByteArray.size_append, ByteArray.size_extract, ByteArray.size_extract, rdS_size h hb.1 hb.2, hm]
    omega
theorem fall_len : ∀ (so : List S24) (su : List ByteArray) (cut : Nat → Int) (i : Nat), (fall su so cut i).length = su.length
  | [], su, cut, i => rfl
  | m :: so, su, cut, i => by rw [fall, fall_len so, put1_len]
theorem fall_snoc : ∀ (so : List S24) (su : List ByteArray) (m : S24) (cut : Nat → Int) (i : Nat), fall su (so ++ [m]) cut i = put1 (fall su so cut i) m (cut (i + so.length))
  | [], su, m, cut, i => rfl
  | x :: so, su, m, cut, i => by
    show fall (put1 su x (cut i)) (so ++ [m]) cut (i + 1) = put1 (fall (put1 su x (cut i)) so cut (i + 1)) m _
    rw [fall_snoc so, show i + 1 + so.length = i + (x :: so).length by simp only [List.length_cons]; omega]
theorem fall_sur : ∀ (so : List S24) (su : List ByteArray) (cut : Nat → Int) (i : Nat), Fits su so → (∀ j, 0 ≤ cut j ∧ cut j ≤ 64) → ∀ s ∈ fall su so cut i, s.size = 64
  | [], su, cut, i, h, _ => h.sur
  | m :: so, su, cut, i, h, hc => by
    have hb := h.blk m (by simp)
    refine fall_sur so _ cut (i + 1) ⟨fun x hx => ?_, fun x hx => h.byt x (by simp [hx]), put1_sur h.sur hb (h.byt m (by simp)) (hc i).1 (hc i).2⟩ hc
    rw [put1_len]
    exact h.blk x (by simp [hx])
def upto (su : List ByteArray) (so : List S24) (cut : Nat → Int) (i : Nat) : List ByteArray := fall su (so.take i) cut 0
theorem upto_next {su : List ByteArray} {so : List S24} {cut : Nat → Int} {i : Nat} (h : i < so.length) : upto su so cut (i + 1) = put1 (upto su so cut i) (rd_T24 so i) (cut i) := by
  unfold upto
  rw [List.take_add_one, List.getElem?_eq_getElem h, rd24_get h]
  show fall su (so.take i ++ [so[i]]) cut 0 = _
  rw [fall_snoc]
  congr 2
  simp only [List.length_take]
  omega
set_option maxRecDepth 100000 in
set_option maxHeartbeats 4000000 in
theorem settle_calls (pf : Nat) (lb : Array Value) (cut : Nat → Int) (A0 : Option Addr) (c0 : Nat) (su : List ByteArray) (A1 : Option Addr) (c1 : Nat) (so : List S24) (w : World)
    (hr0 : Kd.C Kd.string w A0 su.length su) (hc0 : su.length ≤ c0) (hr1 : Kd.C k24 w A1 so.length so) (hc1 : so.length ≤ c1) (hsu : su.length < 8796093022208) (hso : so.length ≤ 9223372036854775807)
    (hf : Fits su so) (hcut : ∀ i, 0 ≤ cut i ∧ cut i ≤ 64)
    (epf : ∀ args w, (callFunc pf args).run Try.prog w = .ok (.enter pf args) w)
    (hp : ∀ (i : Nat) (W : World), i < so.length → Below w.heap.size w W → Calls Try.prog pf (#[.int .i64 i] ++ lb) W fun e W' => e = .returned (.int .i64 (cut i)) ∧ Below W.heap.size W W') :
    Calls Try.prog 51 #[.agg #[.slice A0 su.length c0, .slice A1 so.length c1], .func (.func pf) #[] lb] w fun e w' => ∃ v0 v1, e = .returned (.agg #[v0, v1]) ∧ Kd.R Kd.string 9 w' w.heap.size (fun _ => True) v0 (fall su so cut 0) ∧ Kd.R k24 24 w' w.heap.size (fun _ => True) v1 [] ∧ Below w.heap.size w w' := by
  have HR0 := Lib.hid hr0
  have HR1 := Lib.hid hr1
  have HP := Lib.hid hp
  have HCUT := Lib.hid hcut
  have HF := Lib.hid hf
  clear hr0 hr1 hp hcut hf
  go_enter Try.func51, Try.ntmps51
  go_wp2_with fail
  generalize hU : World.alloc (World.alloc w _) _ = U
  have B1 : U.heap[w.heap.size]? = some (.cells #[.slice A0 su.length c0, .slice A1 so.length c1] 30 (0, 0)) := by rw [← hU]; exact heap_alloc2_old w _ _
  have B2 : U.heap[w.heap.size + 1]? = some (.cells #[.slice none 0 0, .slice none 0 0] 30 (0, 0)) := by rw [← hU]; exact heap_alloc2_new w _ _
  have HB : Below w.heap.size w U := by rw [← hU]; exact below_alloc (below_alloc (Below.refl w.heap.size w) _) _
  clear hU
  refine (slices_Clone_string_string.calls A0 c0 su su U (Kd.C_below HR0.out HB) hc0 (by unfold slices_Clone_string_string.f; rw [if_pos hsu])).mono ?_
  rintro e W1 ⟨v5, rfl, ho, hb⟩
  have B1' := blk_same B1 hb
  have B2' := blk_same B2 hb
  have HB' := HB.trans (hb.mono HB.size)
  have ho' : Kd.R Kd.string 9 W1 w.heap.size (fun _ => True) v5 (upto su so cut 0) := Kd.R_lower ho HB.size
  have c1' := (blk_cell B1' 1).trans rfl
  have HB1 := Lib.hid B1'
  have HB2 := Lib.hid B2'
  have HBB := Lib.hid HB'
  have HO := Lib.hid ho'
  clear B1 B2 HB hb ho B1' B2' HB' ho' U HR0
  go_wp2
  clear c1'
  go_loopw [15] (fun v15 X => ∃ i : Nat, i ≤ so.length ∧ v15 = .int .i64 i ∧ X.heap[w.heap.size]? = some (.cells #[.slice A0 su.length c0, .slice A1 so.length c1] 30 (0, 0)) ∧ X.heap[w.heap.size + 1]? = some (.cells #[.slice none 0 0, .slice none 0 0] 30 (0, 0)) ∧ Kd.R Kd.string 9 X w.heap.size (fun _ => True) v5 (upto su so cut i) ∧ Below w.heap.size w X)
    (fun v15 _ => so.length - (intOf v15).toNat)
  case atStart => exact ⟨0, by omega, rfl, HB1.out, HB2.out, HO.out, HBB.out⟩
  case round =>
    obtain ⟨i, hi, rfl, hb1, hb2, hR, hB⟩ := hrel
    clear HB1 HB2 HO HBB W1
    have hl : (upto su so cut i).length = su.length := fall_len _ _ _ _
    by_cases hlt : i < so.length
    · obtain ⟨ad, rfl, r0, r1, r2⟩ := at_T24 HR1.out (i : Int) (by omega) (by omega)
      have q0 := (hB.cell (World.block_lt_of_cell? w _ r0)).trans r0
      have q1 := (hB.cell (World.block_lt_of_cell? w _ r1)).trans r1
      have q2 := (hB.cell (World.block_lt_of_cell? w _ r2)).trans r2
      simp only [Int.toNat_natCast] at q0 q1 q2
      clear r0 r1 r2
      have hmem : rd_T24 so i ∈ so := by rw [rd24_get hlt]; exact List.getElem_mem _
      have hbk := HF.out.blk _ hmem
      have hby := HF.out.byt _ hmem
      have HNX := Lib.hid (upto_next (su := su) (cut := cut) hlt)
      have hsz := rdS_size (fall_sur (so.take i) su cut 0 ⟨fun m hm => HF.out.blk m (List.mem_of_mem_take hm), fun m hm => HF.out.byt m (List.mem_of_mem_take hm), HF.out.sur⟩ HCUT.out) (b := (rd_T24 so i).f1) hbk.1 (by rw [fall_len]; exact hbk.2)
      have hct := HCUT.out i
      generalize rd_T24 so i = m at *
      change (rdOf ByteArray.empty (upto su so cut i) m.f1).size = 64 at hsz
      obtain ⟨g, cap, hv5, hg0, hg1, cells, hcells⟩ := Kd.R_form hR (by omega)
      have hv5' := hv5
      rw [hl] at hv5'
      rw [hv5] at hR
      obtain ⟨rc, rf⟩ := Kd.R_cell (enc := Value.string) (h1 := fun _ => rfl) ByteArray.empty hR m.f1 hbk.1 (by omega)
      subst hv5'
      have HR := Lib.hid hR
      have HB := Lib.hid hB
      have HB1 := Lib.hid hb1
      have HB2 := Lib.hid hb2
      have HL := Lib.hid hl
      clear hR hB hb1 hb2 hv5 hcells hmem hl
      go_wp2_with fail
      generalize hX : World.alloc wr _ = X3
      have HX3 := Lib.hid (show Below wr.heap.size wr X3 by rw [← hX]; exact below_alloc (Below.refl _ _) _)
      have g7 : X3.heap[wr.heap.size]? = some (.cells #[.bool m.f0, .int .i64 m.f1, .string m.f2] 24 (0, 0)) := by rw [← hX]; exact heap_alloc_new wr _
      clear hX
      refine (HP.out i X3 hlt (HB.out.trans (HX3.out.mono HB.out.size))).mono ?_
      rintro e W4 ⟨rfl, hb⟩
      have g7' := blk_same g7 hb
      have HX4 := Lib.hid (HX3.out.trans (hb.mono HX3.out.size))
      have HR4 := Lib.hid (Kd.R_below HR.out HX4.out)
      have HG7 := Lib.hid g7'
      clear g7 hb g7' q0 q1 q2 rc rf
      go_wp2_with fail
      have d1 : ∀ p : XB.In (Below W4.heap.size W4), p.w.cell? ⟨wr.heap.size, 1, none⟩ = some (.int .i64 m.f1) := fun p => (blk_cell (blk_same HG7.out p.h) 1).trans rfl
      have d2 : ∀ p : XB.In (Below W4.heap.size W4), p.w.cell? ⟨wr.heap.size, 2, none⟩ = some (.string m.f2) := fun p => (blk_cell (blk_same HG7.out p.h) 2).trans rfl
      have d3 : ∀ p : XB.In (Below W4.heap.size W4), p.w.cell? ⟨g, m.f1.toNat, none⟩ = some (.string (rdOf ByteArray.empty (upto su so cut i) m.f1)) := fun p => (Kd.R_cell (enc := Value.string) (h1 := fun _ => rfl) ByteArray.empty (Kd.R_below HR4.out p.h) m.f1 hbk.1 (by rw [HL.out]; exact hbk.2)).1
      obtain ⟨hk0, hk1⟩ := hbk
      obtain ⟨hct0, hct1⟩ := hct
      have hs1 : cut i ≤ (m.f2.size : Int) := by omega
      have hs2 : cut i ≤ ((rdOf ByteArray.empty (upto su so cut i) m.f1).size : Int) := by omega
      haveI hne : Nonempty (XB.In (Below W4.heap.size W4)) := ⟨⟨W4.drew, below_drew1 (Below.refl _ _)⟩⟩
      refine XB.region_tail (fun w' => ∃ p : XB.In (Below W4.heap.size W4), w' = p.w) 16 (by kernel_rfl) (by kernel_rfl) ⟨⟨W4.drew, below_drew1 (Below.refl _ _)⟩, rfl⟩ ?_
      simp only [List.take_succ_cons, List.take_zero, List.drop_succ_cons, List.drop_zero]
      iterate 16 quiet_step (fail)
      refine wpQuiet_nil ?_
      rintro Y ⟨⟨_, hY⟩, rfl⟩
      have HRY := Lib.hid (Kd.R_below HR4.out hY)
      have HXY := Lib.hid (HX4.out.trans (hY.mono HX4.out.size))
      obtain ⟨rc, rf⟩ := Kd.R_cell (enc := Value.string) (h1 := fun _ => rfl) ByteArray.empty HRY.out m.f1 hk0 (by rw [HL.out]; exact hk1)
      clear hY d1 d2 d3 hne
      go_wp2
      have P := Kd.R_put (enc := Value.string) (h1 := fun _ => rfl) HRY.out m.f1 (m.f2.extract 0 (cut i).toNat ++ (rdOf ByteArray.empty (upto su so cut i) m.f1).extract (cut i).toNat 64)
      have hB' := HB.out.trans (HXY.out.mono HB.out.size)
      have y1 := blk_same HB1.out HXY.out
      have y2 := blk_same HB2.out HXY.out
      have n1 : w.heap.size ≠ g := fun e => Kd.R_ne HRY.out y1 (by decide) (by rw [e]; rfl)
      have n2 : w.heap.size + 1 ≠ g := fun e => Kd.R_ne HRY.out y2 (by decide) (by rw [e]; rfl)
      go_roundw
      case rel =>
        refine ⟨i + 1, by omega, by simp, blk_far y1 n1 _, blk_far y2 n2 _, ?_, hB'.setCell hg0 _⟩
        rw [HNX.out, ← HL.out]
        unfold put1
        rw [hsz]
        exact P.1
      case measure => simp [intOf]; omega
    · obtain rfl : i = so.length := by omega
      have c2a : wr.cell? ⟨w.heap.size + 1, 0, none⟩ = some (.slice none 0 0) := (blk_cell hb2 0).trans rfl
      have c2b : wr.cell? ⟨w.heap.size + 1, 1, none⟩ = some (.slice none 0 0) := (blk_cell hb2 1).trans rfl
      have f2a := blk_frozen hb2 0
      have f2b := blk_frozen hb2 1
      have hfin : upto su so cut so.length = fall su so cut 0 := by unfold upto; rw [List.take_length]
      rw [hfin] at hR
      obtain ⟨Ao, co, hv⟩ := Kd.R_slice hR
      subst hv
      have HR := Lib.hid hR
      have HB := Lib.hid hB
      have HB2 := Lib.hid hb2
      clear hR hB hb2 hb1 hl hfin
      go_wp2
      have X := XB.put21 (XB.put20 HB2.out (.slice Ao (fall su so cut 0).length co)) (.slice none 0 0)
      refine bodyPost_ret (results_cell_row rfl _ _ (w.heap.size + 1) 30 #[.slice Ao (fall su so cut 0).length co, .slice none 0 0] (0, 0) _ rfl X Try.underlying30 rfl (by kernel_rfl)) rfl ?_
      exact ⟨_, _, rfl, Kd.R_set (Kd.R_set HR.out HB2.out (by decide) 0 _) (XB.put20 HB2.out (.slice Ao (fall su so cut 0).length co)) (by decide) 1 _, Kd.R_nil _ _ _ _ _, (HB.out.setCell (by show w.heap.size ≤ w.heap.size + 1; omega) _).setCell (by show w.heap.size ≤ w.heap.size + 1; omega) _⟩
end Go.Proofs.Ytcfinlmocgbnbaa.Pr
