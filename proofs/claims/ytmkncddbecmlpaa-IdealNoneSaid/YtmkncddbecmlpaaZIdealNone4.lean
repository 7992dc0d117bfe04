/-
  A text of what the row IdealNone reaches, laid together by a program of this session (wip/tools/shake.py) out of this seat's texts. No condition but the ones that each lemma names.
-/
import Derived.Test.YtmkncddbecmlpaaZIdealNone3
set_option linter.unusedVariables false
set_option linter.unusedSimpArgs false
section
namespace Go.Proofs.Ytmkncddbecmlpaa.Pr
open Go.RowKit Go.Shelf Go.Proofs.Ytmkncddbecmlpaa.XB Go.Proofs.YtmkncddbecmlpaaW.PrintWords Go.Proofs.YtmkncddbecmlpaaW.PrintLast Go.Proofs.YtmkncddbecmlpaaW.PrintMore
attribute [local go_sem] Oper.semAt_some
set_option linter.unusedVariables false
def tapeP (b : ByteArray) (a : Int) : Bool := decide ((b.size : Int) ≤ 65536) && decide (a ≥ 0) && decide (a ≤ (b.size : Int))
theorem tapeP_f (b : ByteArray) (a : Int) : tape_Right.f b a = some (tapeP b a) := by
  unfold tape_Right.f tapeP
  by_cases h1 : (b.size : Int) ≤ 65536 <;> by_cases h2 : a ≥ 0 <;> simp [h1, h2]
theorem two_alloc {U W1 : World} {o1 o2 : Obj} (h : W1 = (U.alloc o1).alloc o2) : Below U.heap.size U W1 ∧ W1.heap[U.heap.size]? = some o1 ∧ W1.heap[U.heap.size + 1]? = some o2 := by
  subst h
  exact ⟨below_alloc (below_alloc (Below.refl _ _) _) _, bkA (heap_alloc_new _ _) _, by simpa using heap_alloc_new (U.alloc o1) o2⟩
def rightP (b : ByteArray) (a : Int) (ns : List S72) (cs : List S74) (cl : Bool) : Bool :=
  tapeP b a && decide (ns.length ≤ 2000 ∧ cs.length ≤ 2000) && !(ns.any oddName) && !(cs.any oddCell) && !(dup (ns.map fun n => n.f0)) && !(dup (cs.map fun c => (c.f0, c.f1))) && (cl == clashP ns cs)
def ideal_Right.f (a0_0 : ByteArray) (a0_1 : Int) (l0_2 : List (S72)) (l0_3 : List (S74)) (a0_4 : Bool) : Option (Bool) := some (rightP a0_0 a0_1 l0_2 l0_3 a0_4)
set_option maxRecDepth 100000 in
set_option maxHeartbeats 8000000 in
theorem ideal_Right.calls (a0_0 : ByteArray) (a0_1 : Int) (A0_2 : Option Addr) (c0_2 : Nat) (l0_2 : List (S72)) (A0_3 : Option Addr) (c0_3 : Nat) (l0_3 : List (S74)) (a0_4 : Bool) (r : Bool) (w : World) (hr0_2 : Kd.C k72 w A0_2 l0_2.length l0_2) (hc0_2 : l0_2.length ≤ c0_2) (hr0_3 : Kd.C k74 w A0_3 l0_3.length l0_3) (hc0_3 : l0_3.length ≤ c0_3) (h : ideal_Right.f a0_0 a0_1 l0_2 l0_3 a0_4 = some r) :
    Calls Try.prog 37 #[.agg #[.string a0_0, .int .i64 a0_1, .slice A0_2 l0_2.length c0_2, .slice A0_3 l0_3.length c0_3, .bool a0_4]] w fun e w' => e = .returned (.bool r) ∧ Below w.heap.size w w' := by
  cases h
  have e55 : ∀ args w, (callFunc 55 args).run Try.prog w = .ok (.enter 55 args) w := enters_of Try.func55 (by kernel_rfl) rfl
  have e56 : ∀ args w, (callFunc 56 args).run Try.prog w = .ok (.enter 56 args) w := enters_of Try.func56 (by kernel_rfl) rfl
  have e75 : ∀ args w, (callFunc 75 args).run Try.prog w = .ok (.enter 75 args) w := enters_of Try.func75 (by kernel_rfl) rfl
  have e76 : ∀ args w, (callFunc 76 args).run Try.prog w = .ok (.enter 76 args) w := enters_of Try.func76 (by kernel_rfl) rfl
  have e61 : ∀ args w, (callFunc 61 args).run Try.prog w = .ok (.enter 61 args) w := enters_of Try.func61 (by kernel_rfl) rfl
  have e64 : ∀ args w, (callFunc 64 args).run Try.prog w = .ok (.enter 64 args) w := enters_of Try.func64 (by kernel_rfl) rfl
  have hl2 := Kd.C_max hr0_2
  have hl3 := Kd.C_max hr0_3
  generalize hP : rightP a0_0 a0_1 l0_2 l0_3 a0_4 = R
  unfold rightP at hP
  go_enter Try.func37, Try.ntmps37
  go_wp2_with fail
  generalize hU : w.alloc _ = W1
  have HW1 : Below w.heap.size w W1 := by rw [← hU]; exact below_alloc (Below.refl _ _) _
  have C1 : W1.heap[w.heap.size]? = some (.cells #[.string a0_0, .int .i64 a0_1, .slice A0_2 l0_2.length c0_2, .slice A0_3 l0_3.length c0_3, .bool a0_4] 50 (0, 0)) := by rw [← hU]; exact heap_alloc_new _ _
  clear hU
  refine (tape_Right.calls a0_0 a0_1 _ W1 (tapeP_f a0_0 a0_1)).mono ?_
  rintro e W2 ⟨rfl, hb⟩
  have HW2 : Below w.heap.size w W2 := below_step HW1 hb
  have C2 := blk_same C1 hb
  clear hb C1 HW1
  cases h1 : tapeP a0_0 a0_1
  · rw [h1] at hP
    simp only [Bool.false_and] at hP
    subst hP
    clear e55 e56 e75 e76 e61 e64
    go_wp2
    go_ret
    exact ⟨rfl, HW2⟩
  rw [h1] at hP
  have c0 := (blk_cell C2 0).trans rfl
  have c1 := (blk_cell C2 1).trans rfl
  have c2 := (blk_cell C2 2).trans rfl
  have c3 := (blk_cell C2 3).trans rfl
  have c4 := (blk_cell C2 4).trans rfl
  by_cases h2 : l0_2.length ≤ 2000 ∧ l0_3.length ≤ 2000
  case neg =>
    simp only [h2, decide_false, Bool.and_false, Bool.false_and] at hP
    subst hP
    clear e55 e56 e75 e76 e61 e64
    have h2' : ¬ (max (l0_2.length : Int) (l0_3.length : Int) ≤ 2000) := by omega
    have h2'' : (max (l0_2.length : Int) (l0_3.length : Int) > 2000) := by omega
    go_wp2 <;> (go_ret; exact ⟨rfl, HW2⟩)
  simp only [h2, decide_true, and_self, Bool.true_and] at hP
  have hr2 := Kd.C_below hr0_2 HW2
  have hr3 := Kd.C_below hr0_3 HW2
  have h21 : (l0_2.length : Int) ≤ 2000 := by omega
  have h22 : (l0_3.length : Int) ≤ 2000 := by omega
  have HP := Lib.hid hP
  clear hP
  (go_wp2_with fail) <;> (
    refine (contains57_calls 55 #[] oddName A0_2 c0_2 l0_2 W2 hr2 hc0_2 hl2 e55 (fun x W _ => oddName_calls x W)).mono ?_
    rintro e W3 ⟨rfl, hb⟩
    have HW3 : Below w.heap.size w W3 := below_step HW2 hb
    have C3 := blk_same C2 hb
    have hr3' := Kd.C_below hr3 hb
    clear hb
    cases h3 : l0_2.any oddName
    case true =>
      have hP := HP.out
      simp only [h3, Bool.not_true, Bool.false_and] at hP
      subst hP
      clear e55 e56 e75 e76 e61 e64
      go_wp2
      go_ret
      exact ⟨rfl, HW3⟩
    have d3 := (blk_cell C3 3).trans rfl
    go_wp2_with fail
    refine (contains58_calls 56 #[] oddCell A0_3 c0_3 l0_3 W3 hr3' hc0_3 hl3 e56 (fun x W _ => oddCell_calls x W)).mono ?_
    rintro e W4 ⟨rfl, hb⟩
    have HW4 : Below w.heap.size w W4 := below_step HW3 hb
    have C4 := blk_same C3 hb
    clear hb
    cases h4 : l0_3.any oddCell
    case true =>
      have hP := HP.out
      simp only [h3, h4, Bool.not_true, Bool.not_false, Bool.false_and, Bool.true_and] at hP
      subst hP
      clear e55 e56 e75 e76 e61 e64
      go_wp2
      go_ret
      exact ⟨rfl, HW4⟩
    have hr2'' := Kd.C_below hr0_2 HW4
    have hr3'' := Kd.C_below hr0_3 HW4
    have f0 := (blk_cell C4 0).trans rfl
    have f1 := (blk_cell C4 1).trans rfl
    have f2 := (blk_cell C4 2).trans rfl
    have f3 := (blk_cell C4 3).trans rfl
    have f4 := (blk_cell C4 4).trans rfl
    go_wp2_with fail
    refine (names_calls 61 a0_0 a0_1 _ _ a0_4 W4 rfl rfl).mono ?_
    rintro e W5 ⟨rfl, hW5⟩
    obtain ⟨hb, B1, B2⟩ := two_alloc hW5
    have HW5 : Below w.heap.size w W5 := below_step HW4 hb
    have seq2 := names1_seq 8 (by omega) W5 W4.heap.size (W4.heap.size + 1) 61 a0_0 a0_1 A0_2 c0_2 (.slice A0_3 l0_3.length c0_3) a0_4 l0_2 (fun n => n.f0) B1 B2 (Kd.C_below hr2'' hb) hc0_2 hl2 in_calls e61
    have C5 := blk_same C4 hb
    clear hW5 hb B1 B2
    go_wp2_with fail
    refine (twice9_calls 75 _ (fun k => (rd_T72 l0_2 k).f0) l0_2.length W5 e75 seq2).mono ?_
    rintro e W6 ⟨rfl, hb⟩
    rw [show told (fun k : Nat => (rd_T72 l0_2 k).f0) l0_2.length = _ from told_names l0_2 (fun n => n.f0)]
    have HW6 : Below w.heap.size w W6 := below_step HW5 hb
    have C6 := blk_same C5 hb
    clear hb seq2 f0 f1 f2 f3 f4
    cases h5 : dup (l0_2.map fun n => n.f0)
    case true =>
      have hP := HP.out
      simp only [h3, h4, h5, Bool.not_true, Bool.not_false, Bool.false_and, Bool.true_and] at hP
      subst hP
      clear e55 e56 e75 e76 e61 e64
      go_wp2
      go_ret
      exact ⟨rfl, HW6⟩
    have f0 := (blk_cell C6 0).trans rfl
    have f1 := (blk_cell C6 1).trans rfl
    have f2 := (blk_cell C6 2).trans rfl
    have f3 := (blk_cell C6 3).trans rfl
    have f4 := (blk_cell C6 4).trans rfl
    go_wp2_with fail
    refine (cells_calls 64 a0_0 a0_1 _ _ a0_4 W6 rfl rfl).mono ?_
    rintro e W7 ⟨rfl, hW7⟩
    obtain ⟨hb, B1, B2⟩ := two_alloc hW7
    have HW7 : Below w.heap.size w W7 := below_step HW6 hb
    have seq3 := cells1_seq 8 (by omega) W7 W6.heap.size (W6.heap.size + 1) 64 a0_0 a0_1 (.slice A0_2 l0_2.length c0_2) A0_3 c0_3 a0_4 l0_3 (fun c => (c.f0, c.f1)) B1 B2 (Kd.C_below hr0_3 HW7) hc0_3 hl3 labelText_calls e64
    have C7 := blk_same C6 hb
    clear hW7 hb B1 B2
    go_wp2_with fail
    refine (twice97_calls 76 _ (fun k => ((rd_T74 l0_3 k).f0, (rd_T74 l0_3 k).f1)) l0_3.length W7 e76 seq3).mono ?_
    rintro e W8 ⟨rfl, hb⟩
    rw [show told (fun k : Nat => ((rd_T74 l0_3 k).f0, (rd_T74 l0_3 k).f1)) l0_3.length = _ from told_cells l0_3 (fun c => (c.f0, c.f1))]
    have HW8 : Below w.heap.size w W8 := below_step HW7 hb
    have C8 := blk_same C7 hb
    clear hb seq3 f0 f1 f2 f3 f4
    cases h6 : dup (l0_3.map fun c => (c.f0, c.f1))
    case true =>
      have hP := HP.out
      simp only [h3, h4, h5, h6, Bool.not_true, Bool.not_false, Bool.false_and, Bool.true_and] at hP
      subst hP
      clear e55 e56 e75 e76 e61 e64
      go_wp2
      go_ret
      exact ⟨rfl, HW8⟩
    clear e55 e56 e75 e76 e61 e64
    go_wp2_with fail
    refine start_ (n := 6) (S := fun w' => w'.cell? ⟨w.heap.size, 0, none⟩ = some (.string a0_0) ∧ w'.cell? ⟨w.heap.size, 1, none⟩ = some (.int .i64 a0_1) ∧ w'.cell? ⟨w.heap.size, 2, none⟩ = some (.slice A0_2 l0_2.length c0_2) ∧ w'.cell? ⟨w.heap.size, 3, none⟩ = some (.slice A0_3 l0_3.length c0_3) ∧ w'.cell? ⟨w.heap.size, 4, none⟩ = some (.bool a0_4)) (ds := []) #[false, false, false, false, false, false] (by kernel_rfl) rfl rfl ⟨(blk_cell C8 0).trans rfl, (blk_cell C8 1).trans rfl, (blk_cell C8 2).trans rfl, (blk_cell C8 3).trans rfl, (blk_cell C8 4).trans rfl⟩ (fun hHeld => ?_)
    have C9 := XB.bkD C8
    have HW9 := below_drew1 HW8
    clear C8
    generalize W8.drew = W9 at C9 HW9 hHeld ⊢
    refine pure_ (i := 0) (N := some 33) (v := ?_) (a' := ?_) #[true, false, false, false, false, false] rfl rfl (by kernel_rfl) (fun _ _ _ h => h) (Or.inl ⟨by rfl, ?_⟩) ?_ ?_
    rotate_left
    · intro w'
      go_simp
      with_reducible rfl
    rotate_left
    · simp only [Act.put, List.setIfInBounds_toArray, List.set_cons_zero, List.set_cons_succ]
      rfl
    refine take_ (i := 1) (N := some 34) (v := ?_) (a' := ?_) #[true, true, false, false, false, false] rfl rfl (by kernel_rfl) (fun _ _ _ h => h) (Or.inl ⟨by rfl, ?_⟩) hHeld ?_ ?_
    rotate_left
    · rintro w' ⟨s0, s1, s2, s3, s4⟩
      go_simp
      with_reducible rfl
    rotate_left
    · simp only [Act.put, List.setIfInBounds_toArray, List.set_cons_zero, List.set_cons_succ]
      rfl
    refine take_ (i := 2) (N := some 35) (v := ?_) (a' := ?_) #[true, true, true, false, false, false] rfl rfl (by kernel_rfl) (fun _ _ _ h => h) (Or.inl ⟨by rfl, ?_⟩) hHeld ?_ ?_
    rotate_left
    · rintro w' ⟨s0, s1, s2, s3, s4⟩
      go_simp
      with_reducible rfl
    rotate_left
    · simp only [Act.put, List.setIfInBounds_toArray, List.set_cons_zero, List.set_cons_succ]
      rfl
    refine one_ (i := 3) (N := some 36) #[true, true, true, true, false, false] rfl rfl (by kernel_rfl) (by decide) (fun K hK => ?_)
    refine goes_ Try.func52 (by kernel_rfl) rfl #[.agg #[.string a0_0, .int .i64 a0_1, .slice A0_2 l0_2.length c0_2, .slice A0_3 l0_3.length c0_3, .bool a0_4]] (by rfl) rfl rfl (by (try simp only [List.map_toArray, List.map_cons, List.map_nil]); rfl) ?_
    refine (ideal_clash.calls a0_0 a0_1 A0_2 c0_2 l0_2 A0_3 c0_3 l0_3 a0_4 _ W9 (Kd.C_below hr0_2 HW9) hc0_2 (Kd.C_below hr0_3 HW9) hc0_3 rfl).mono ?_
    rintro e W10 ⟨rfl, hb⟩
    refine ⟨_, rfl, ?_⟩
    have HW10 : Below w.heap.size w W10 := below_step HW9 hb
    have C10 := blk_same C9 hb
    refine hK.out _ _ ⟨(blk_cell C10 0).trans rfl, (blk_cell C10 1).trans rfl, (blk_cell C10 2).trans rfl, (blk_cell C10 3).trans rfl, (blk_cell C10 4).trans rfl⟩ (fun hHeld => ?_)
    clear hK K
    refine norm_ (a' := ?_) ?_ ?_
    rotate_left
    · show Act.put _ (some 36) _ = _
      simp only [Act.put, List.setIfInBounds_toArray, List.set_cons_zero, List.set_cons_succ]
      rfl
    refine pure_ (i := 4) (N := some 37) (v := ?_) (a' := ?_) #[true, true, true, true, true, false] rfl rfl (by kernel_rfl) (fun _ _ _ h => h) (Or.inl ⟨by rfl, ?_⟩) ?_ ?_
    rotate_left
    · intro w'
      go_simp
      with_reducible rfl
    rotate_left
    · simp only [Act.put, List.setIfInBounds_toArray, List.set_cons_zero, List.set_cons_succ]
      rfl
    refine pure_ (i := 5) (N := some 2) (v := ?_) (a' := ?_) #[true, true, true, true, true, true] rfl rfl (by kernel_rfl) (fun _ _ _ h => h) (Or.inl ⟨by rfl, ?_⟩) ?_ ?_
    rotate_left
    · intro w'
      go_simp
      with_reducible rfl
    rotate_left
    · simp only [Act.put, List.setIfInBounds_toArray, List.set_cons_zero, List.set_cons_succ]
      rfl
    refine done_ (by kernel_rfl) ?_
    have hP := HP.out
    simp only [h3, h4, h5, h6, Bool.not_true, Bool.not_false, Bool.false_and, Bool.true_and] at hP
    subst hP
    go_wp2
    go_ret
    exact ⟨rfl, HW10⟩)
end Go.Proofs.Ytmkncddbecmlpaa.Pr
end
