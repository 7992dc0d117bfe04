/-
  A part of what the row VaultKeeps reaches, laid together by a program of this session (wip/tools/shake.py) out of this seat's texts. No condition but the ones that each lemma names.
-/
import Derived.Test.YtcfinlmocgbnbaaZVaultKeeps1
import Derived.Test.YtcfinlmocgbnbaaZVaultKeeps2
set_option linter.unusedVariables false
set_option linter.unusedSimpArgs false
section
namespace Go.Proofs.Ytcfinlmocgbnbaa.Pr
open Go.Proofs.Ytcfinlmocgbnbaa.Sq Go.RowKit Go.Shelf Go.Proofs.Ytcfinlmocgbnbaa.XB Go.Proofs.YtcfinlmocgbnbaaW.PrintWords Go.Proofs.YtcfinlmocgbnbaaW.PrintLast Go.Proofs.YtcfinlmocgbnbaaW.PrintMore
attribute [local go_sem] Oper.semAt_some
set_option linter.unusedVariables false
set_option linter.unusedSimpArgs false
set_option maxRecDepth 100000
def vnext.T8 : Bool × List (List Nat × List Nat) := (true, [([], []), ([], []), ([], []), ([2], [2]), ([3], [3]), ([4], [4]), ([5], [5]), ([6], [6]), ([7, 6], [6, 7]), ([8, 6], [6, 8]), ([6], [6]), ([10, 6, 6], [6, 10]), ([9, 11, 6], [6, 9, 11]), ([6, 12], [6, 12]), ([0, 11, 0], [0]), ([1, 14, 0, 1, 14], [1]), ([13, 15, 0, 1, 2, 3, 4, 5, 6, 7, 8, 9, 10, 11, 12, 13, 14, 15], [13])])
def vnext.B8 : List Nat := [0, 0, 0, 4, 12, 28, 60, 124, 252, 508, 124, 1148, 4092, 8188, 3197, 19583, 65535]
theorem vnext.tab8 : rtab .any (opsOf Try.f59 8) = vnext.T8 := by kernel_rfl
theorem vnext.bits8 : waitsOk vnext.T8.2 vnext.B8 = true := by kernel_rfl
set_option maxHeartbeats 4000000 in
theorem vnext_add {su : List ByteArray} {A0 A1 : Option Addr} {c0 c1 half ln : Nat} {sq rm : Int} {s T U : ByteArray} {n : Nat} (hU : T ++ s = U) (hsz : U.size = n) (w : World)
    (hsu : Kd.C Kd.string w A0 su.length su) (hc0 : su.length ≤ c0) (hso : Kd.C k24 w A1 0 ([] : List S24)) (hq0 : 0 ≤ sq) (hq1 : sq + 1 ≤ 1099511627776) (hT : n ≤ 1000000)
    (hTx : ∀ W, Below w.heap.size w W → Calls Try.prog 61 #[.agg #[.slice A0 su.length c0, .slice A1 0 c1, .int .i64 sq, .int .i64 (half : Int), .int .i64 (ln : Int)]] W fun e w' => e = .returned (.string T) ∧ Below W.heap.size W w')
    (hrm : vault_book_room.f su [] (sq + 1) half (n : Int) = some rm) :
    Calls Try.prog 59 #[.agg #[.slice A0 su.length c0, .slice A1 0 c1, .int .i64 sq, .int .i64 (half : Int), .int .i64 (ln : Int)], .string s, .bool false] w fun e w' =>
      e = .returned (.tuple #[.agg #[.slice A0 su.length c0, .slice A1 0 c1, .int .i64 (sq + 1), .int .i64 (half : Int), .int .i64 (n : Int)], .string U, .bool (decide ((n : Int) ≤ rm))]) ∧ Below w.heap.size w w' := by
  have HT := Lib.hid hTx
  have HM := Lib.hid (show ∀ W, Below w.heap.size w W → Calls Try.prog 58 #[.agg #[.slice A0 su.length c0, .slice A1 0 c1, .int .i64 (sq + 1), .int .i64 (half : Int), .int .i64 (n : Int)]] W fun e w' => e = .returned (.int .i64 rm) ∧ Below W.heap.size W w' from fun W h => vault_book_room.calls _ _ su _ c1 [] _ _ _ rm W (Kd.C_below hsu h) hc0 (Kd.C_below hso h) (Nat.zero_le _) hrm)
  have t2 : ¬ 9223372036854775807 < T.size + s.size := by have := congrArg ByteArray.size hU; rw [ByteArray.size_append, hsz] at this; omega
  have HU := Lib.hid hU
  have HSZ := Lib.hid hsz
  clear hU hsz hTx hsu hso hrm
  go_enter Try.func59, Try.ntmps59
  go_wp2_with fail
  generalize hW0 : World.alloc (World.alloc (World.alloc w _) _) _ = W0
  have F1 : W0.heap[w.heap.size + 1]? = some (.cells #[.slice none 0 0, .slice none 0 0, .int .i64 0, .int .i64 0, .int .i64 0] 89 (0, 0)) := by rw [← hW0]; exact (boxes3 w _ _ _).2.1
  have F2 : W0.heap[w.heap.size + 1 + 1]? = some (.cells #[.slice A0 su.length c0, .slice A1 0 c1, .int .i64 (sq + 1), .int .i64 (half : Int), .int .i64 (ln : Int)] 89 (0, 0)) := by rw [← hW0]; exact (boxes3 w _ _ _).2.2
  have FB : Below w.heap.size w W0 := by rw [← hW0]; exact below_alloc (below_alloc (below_alloc (Below.refl _ _) _) _) _
  clear hW0
  refine (HT.out W0 FB).mono ?_
  rintro e W1 ⟨rfl, hb⟩
  have G1 := Lib.hid (blk_same F1 hb)
  have G2 := Lib.hid (blk_same F2 hb)
  have GB := Lib.hid (below_step FB hb)
  have c4 := (blk_cell (blk_same F2 hb) 4).trans rfl
  have f4 := blk_frozen (blk_same F2 hb) 4
  clear hb F1 F2 FB HT
  have hU := HU.out
  have hsz := HSZ.out
  go_wp2_with fail
  clear hU hsz c4 f4 t2
  have X1 := Lib.hid (blk_far G1.out (p := ⟨w.heap.size + 1 + 1, 4, none⟩) (show w.heap.size + 1 ≠ w.heap.size + 1 + 1 by omega) (.int .i64 (n : Int)))
  have X2 := Lib.hid (blk_set G2.out 4 (.int .i64 (n : Int)))
  have XW := Lib.hid (below_set GB.out (show w.heap.size ≤ w.heap.size + 1 + 1 by omega) (j := 4) (v := .int .i64 (n : Int)))
  generalize W1.setCell ⟨w.heap.size + 1 + 1, 4, none⟩ (.int .i64 (n : Int)) = X at X1 X2 XW ⊢
  clear G1 G2 GB W1 W0
  have X2' := X2.out
  simp only [List.setIfInBounds_toArray, List.set_cons_succ, List.set_cons_zero] at X2'
  have d0 := fun q : XB.In (Below X.heap.size X) => (blk_cell (blk_same X2' q.h) 0).trans rfl
  have d1 := fun q : XB.In (Below X.heap.size X) => (blk_cell (blk_same X2' q.h) 1).trans rfl
  have d2 := fun q : XB.In (Below X.heap.size X) => (blk_cell (blk_same X2' q.h) 2).trans rfl
  have d3 := fun q : XB.In (Below X.heap.size X) => (blk_cell (blk_same X2' q.h) 3).trans rfl
  have d4 := fun q : XB.In (Below X.heap.size X) => (blk_cell (blk_same X2' q.h) 4).trans rfl
  have HM2 := Lib.hid (fun (W : World) (h : Below X.heap.size X W) => HM.out W (XW.out.trans (h.mono XW.out.size)))
  clear X2' HM
  have e1 : decide (sq + 1 ≤ 1099511627776) = true := decide_eq_true hq1
  have HO := am (below_drew1 (Below.refl X.heap.size X))
  have Y1 := am (Go.Proofs.YtcfinlmocgbnbaaW.PrintWords.bkD X1.out)
  have Y2 : Aside0 (X.drew.heap[w.heap.size + 1 + 1]? = some (.cells #[.slice A0 su.length c0, .slice A1 0 c1, .int .i64 (sq + 1), .int .i64 (half : Int), .int .i64 (n : Int)] 89 (0, 0))) := am (Go.Proofs.YtcfinlmocgbnbaaW.PrintWords.bkD X2.out)
  clear d0 d1 d2 d3 d4
  refine start_ (n := 17) (S := fun w' => w'.cell? ⟨w.heap.size + 1 + 1, 0, none⟩ = some (.slice A0 su.length c0) ∧ w'.cell? ⟨w.heap.size + 1 + 1, 1, none⟩ = some (.slice A1 0 c1) ∧ w'.cell? ⟨w.heap.size + 1 + 1, 2, none⟩ = some (.int .i64 (sq + 1)) ∧ w'.cell? ⟨w.heap.size + 1 + 1, 3, none⟩ = some (.int .i64 (half : Int)) ∧ w'.cell? ⟨w.heap.size + 1 + 1, 4, none⟩ = some (.int .i64 (n : Int))) (ds := []) #[false, false, false, false, false, false, false, false, false, false, false, false, false, false, false, false, false] (by kernel_rfl) rfl rfl (bc5 Y2) (fun hHeld => ?_); refine with_tabW vnext.tab8 vnext.bits8 (fun HT_ HW_ => ?_)
  generalize X.drew = w0 at HO Y1 Y2 hHeld ⊢
  refine tk_ 0 (some 34) HT_ HW_ rfl rfl (.inl ⟨by rfl, by rintro w' ⟨s0, s1, s2, s3, s4⟩; go_simp; with_reducible rfl⟩) hHeld (by simp only [Act.put, sa_, s0_, s1_, i64_w, i32_w]; rfl) ?_
  refine pu_ 1 (some 35) HT_ rfl rfl (.inl ⟨by rfl, by intro w'; go_simp; with_reducible rfl⟩) (by simp only [Act.put, sa_, s0_, s1_, i64_w, i32_w]; rfl) ?_
  refine pu_ 2 (some 36) HT_ rfl rfl (.inl ⟨by rfl, by intro w'; go_simp; with_reducible rfl⟩) (by simp only [Act.put, sa_, s0_, s1_, i64_w, i32_w]; rfl) ?_
  refine pu_ 3 (some 37) HT_ rfl rfl (.inl ⟨by rfl, by intro w'; go_simp; with_reducible rfl⟩) (by simp only [Act.put, sa_, s0_, s1_, i64_w, i32_w]; rfl) ?_
  refine tk_ 4 (some 38) HT_ HW_ rfl rfl (.inl ⟨by rfl, by rintro w' ⟨s0, s1, s2, s3, s4⟩; go_simp; with_reducible rfl⟩) hHeld (by simp only [Act.put, sa_, s0_, s1_, i64_w, i32_w]; rfl) ?_
  refine pu_ 5 (some 39) HT_ rfl rfl (.inl ⟨by rfl, by intro w'; go_simp; with_reducible rfl⟩) (by simp only [Act.put, sa_, s0_, s1_, i64_w, i32_w]; rfl) ?_
  refine pu_ 6 (some 40) HT_ rfl rfl (.inl ⟨by rfl, by intro w'; go_simp; with_reducible rfl⟩) (by simp only [Act.put, sa_, s0_, s1_, i64_w, i32_w]; rfl) ?_
  refine pu_ 7 (some 41) HT_ rfl rfl (.inl ⟨by rfl, by intro w'; go_simp; with_reducible rfl⟩) (by simp only [Act.put, sa_, s0_, s1_, i64_w, i32_w]; rfl) ?_
  refine pu_ 8 (some 42) HT_ rfl rfl (.inl ⟨by rfl, by intro w'; go_simp; with_reducible rfl⟩) (by simp only [Act.put, sa_, s0_, s1_, i64_w, i32_w]; rfl) ?_
  refine tk_ 9 (some 43) HT_ HW_ rfl rfl (.inl ⟨by rfl, by rintro w' ⟨s0, s1, s2, s3, s4⟩; go_simp; with_reducible rfl⟩) hHeld (by simp only [Act.put, sa_, s0_, s1_, i64_w, i32_w]; rfl) ?_
  refine tk_ 10 (some 44) HT_ HW_ rfl rfl (.inl ⟨by rfl, by rintro w' ⟨s0, s1, s2, s3, s4⟩; go_simp; with_reducible rfl⟩) hHeld (by simp only [Act.put, sa_, s0_, s1_, i64_w, i32_w]; rfl) ?_
  refine on_ 11 (some 45) HT_ rfl rfl (fun K hK => ?_)
  refine goes_ Try.func58 (by kernel_rfl) rfl #[.agg #[.slice A0 su.length c0, .slice A1 0 c1, .int .i64 (sq + 1), .int .i64 (half : Int), .int .i64 (n : Int)]] (by rfl) rfl rfl (by (try simp only [List.map_toArray, List.map_cons, List.map_nil]) <;> rfl) ?_
  refine (HM2.out _ HO.out).mono ?_
  rintro e W5 ⟨rfl, hb⟩
  refine ⟨_, rfl, ?_⟩
  have m0_ := am (below_step HO.out hb); have m1_ := am (blk_same Y1.out hb); have m2_ := am (blk_same Y2.out hb); clear HO Y1 Y2 hb; have HO := m0_; have Y1 := m1_; have Y2 := m2_; clear m0_ m1_ m2_
  refine hK.out _ _ (bc5 Y2) (fun hHeld => ?_)
  clear hK K
  refine norm_ (by show Act.put _ (some 45) _ = _; simp only [Act.put, sa_, s0_, s1_, i64_w, i32_w]; rfl) ?_
  refine pu_ 12 (some 46) HT_ rfl rfl (.inl ⟨by rfl, by intro w'; go_simp; with_reducible rfl⟩) (by simp only [Act.put, sa_, s0_, s1_, i64_w, i32_w]; rfl) ?_
  refine pu_ 13 (some 47) HT_ rfl rfl (.inl ⟨by rfl, by intro w'; go_simp; with_reducible rfl⟩) (by simp only [Act.put, sa_, s0_, s1_, i64_w, i32_w]; rfl) ?_
  refine on_ 14 none HT_ rfl rfl (fun K hK => ?_)
  have hc0 := (blk_cell Y1.out 0).trans rfl; have hf0 := blk_frozen Y1.out 0
  have hc1 := (blk_cell Y1.out 1).trans rfl; have hf1 := blk_frozen Y1.out 1
  have hc2 := (blk_cell Y1.out 2).trans rfl; have hf2 := blk_frozen Y1.out 2
  have hc3 := (blk_cell Y1.out 3).trans rfl; have hf3 := blk_frozen Y1.out 3
  have hc4 := (blk_cell Y1.out 4).trans rfl; have hf4 := blk_frozen Y1.out 4
  refine skip_ (by rfl) rfl (by go_simp; rfl) ?_
  clear hc0 hc1 hc2 hc3 hc4 hf0 hf1 hf2 hf3 hf4
  have k2 := br5 (i0 := 0) (i1 := 1) (i2 := 2) (i3 := 3) (i4 := 4) (a := .slice A0 su.length c0) (b := .slice A1 0 c1) (c := .int .i64 (sq + 1)) (d := .int .i64 (half : Int)) (e := .int .i64 (n : Int)) Y2.out (am (show w.heap.size + 1 + 1 ≠ w.heap.size + 1 by omega))
  have k1 := bp5 (a' := .slice A0 su.length c0) (b' := .slice A1 0 c1) (c' := .int .i64 (sq + 1)) (d' := .int .i64 (half : Int)) (e' := .int .i64 (n : Int)) Y1.out
  refine hK.out _ _ (bc5 (am k2)) (fun hHeld => ?_)
  clear hK K
  refine pu_ 15 (some 7) HT_ rfl rfl (.inl ⟨by rfl, by intro w'; go_simp; with_reducible rfl⟩) (by simp only [Act.put, sa_, s0_, s1_, i64_w, i32_w]; rfl) ?_
  refine pu_ 16 (some 8) HT_ rfl rfl (.inl ⟨by rfl, by intro w'; go_simp; with_reducible rfl⟩) (by simp only [Act.put, sa_, s0_, s1_, i64_w, i32_w]; rfl) ?_
  refine done_ (done_of HT_.out (by kernel_rfl)) ?_
  go_wp2
  exact bodyPost_ret (XB.resultsX_list (rs := [.cell 6 89, .tmp 7, .tmp 8]) rfl (by simp) (.cell (w.heap.size + 1) 89 #[.slice A0 su.length c0, .slice A1 0 c1, .int .i64 (sq + 1), .int .i64 (half : Int), .int .i64 (n : Int)] (0, 0) _ rfl k1 Try.underlying89 rfl (by kernel_rfl) (.tmp (.tmp .nil)))) rfl ⟨rfl, below_set (below_set (below_set (below_set (below_set (XW.out.trans (HO.out.mono XW.out.size)) (by omega)) (by omega)) (by omega)) (by omega)) (by omega)⟩
set_option maxHeartbeats 4000000 in
theorem vnext_new {su : List ByteArray} {A0 A1 : Option Addr} {c0 c1 half half2 ln : Nat} {sq rm : Int} {U : ByteArray} {n : Nat} (hsz : U.size = n) (hh : half + half2 = 1) (w : World)
    (hsu : Kd.C Kd.string w A0 su.length su) (hc0 : su.length ≤ c0) (hso : Kd.C k24 w A1 0 ([] : List S24)) (hq0 : 0 ≤ sq) (hq1 : sq + 1 ≤ 1099511627776) (hT : n ≤ 1000000)
    (hrm : vault_book_room.f su [] (sq + 1) half2 (n : Int) = some rm) :
    Calls Try.prog 59 #[.agg #[.slice A0 su.length c0, .slice A1 0 c1, .int .i64 sq, .int .i64 (half : Int), .int .i64 (ln : Int)], .string U, .bool true] w fun e w' =>
      e = .returned (.tuple #[.agg #[.slice A0 su.length c0, .slice A1 0 c1, .int .i64 (sq + 1), .int .i64 (half2 : Int), .int .i64 (n : Int)], .string U, .bool (decide ((n : Int) ≤ rm))]) ∧ Below w.heap.size w w' := by
  have he : (1 : Int) - (half : Int) = (half2 : Int) := by omega
  have HM := Lib.hid (show ∀ W, Below w.heap.size w W → Calls Try.prog 58 #[.agg #[.slice A0 su.length c0, .slice A1 0 c1, .int .i64 (sq + 1), .int .i64 (half2 : Int), .int .i64 (n : Int)]] W fun e w' => e = .returned (.int .i64 rm) ∧ Below W.heap.size W w' from fun W h => vault_book_room.calls _ _ su _ c1 [] _ _ _ rm W (Kd.C_below hsu h) hc0 (Kd.C_below hso h) (Nat.zero_le _) hrm)
  have HSZ := Lib.hid hsz
  clear hsz hsu hso hrm
  go_enter Try.func59, Try.ntmps59
  have hsz := HSZ.out
  go_wp2_with fail
  clear hsz he
  generalize hX : World.alloc (World.alloc (World.alloc w _) _) _ = X
  have X1 := Lib.hid (show X.heap[w.heap.size + 1]? = some (.cells #[.slice none 0 0, .slice none 0 0, .int .i64 0, .int .i64 0, .int .i64 0] 89 (0, 0)) by rw [← hX]; exact (boxes3 w _ _ _).2.1)
  have X2 := Lib.hid (show X.heap[w.heap.size + 1 + 1]? = some (.cells #[.slice A0 su.length c0, .slice A1 0 c1, .int .i64 (sq + 1), .int .i64 (half2 : Int), .int .i64 (n : Int)] 89 (0, 0)) by rw [← hX]; exact (boxes3 w _ _ _).2.2)
  have XW := Lib.hid (show Below w.heap.size w X by rw [← hX]; exact below_alloc (below_alloc (below_alloc (Below.refl _ _) _) _) _)
  clear hX
  have HM2 := Lib.hid (fun (W : World) (h : Below X.heap.size X W) => HM.out W (XW.out.trans (h.mono XW.out.size)))
  clear HM
  have e1 : decide (sq + 1 ≤ 1099511627776) = true := decide_eq_true hq1
  have HO := am (below_drew1 (Below.refl X.heap.size X))
  have Y1 := am (Go.Proofs.YtcfinlmocgbnbaaW.PrintWords.bkD X1.out)
  have Y2 : Aside0 (X.drew.heap[w.heap.size + 1 + 1]? = some (.cells #[.slice A0 su.length c0, .slice A1 0 c1, .int .i64 (sq + 1), .int .i64 (half2 : Int), .int .i64 (n : Int)] 89 (0, 0))) := am (Go.Proofs.YtcfinlmocgbnbaaW.PrintWords.bkD X2.out)
  refine start_ (n := 17) (S := fun w' => w'.cell? ⟨w.heap.size + 1 + 1, 0, none⟩ = some (.slice A0 su.length c0) ∧ w'.cell? ⟨w.heap.size + 1 + 1, 1, none⟩ = some (.slice A1 0 c1) ∧ w'.cell? ⟨w.heap.size + 1 + 1, 2, none⟩ = some (.int .i64 (sq + 1)) ∧ w'.cell? ⟨w.heap.size + 1 + 1, 3, none⟩ = some (.int .i64 (half2 : Int)) ∧ w'.cell? ⟨w.heap.size + 1 + 1, 4, none⟩ = some (.int .i64 (n : Int))) (ds := []) #[false, false, false, false, false, false, false, false, false, false, false, false, false, false, false, false, false] (by kernel_rfl) rfl rfl (bc5 Y2) (fun hHeld => ?_); refine with_tabW vnext.tab8 vnext.bits8 (fun HT_ HW_ => ?_)
  generalize X.drew = w0 at HO Y1 Y2 hHeld ⊢
  refine tk_ 0 (some 34) HT_ HW_ rfl rfl (.inl ⟨by rfl, by rintro w' ⟨s0, s1, s2, s3, s4⟩; go_simp; with_reducible rfl⟩) hHeld (by simp only [Act.put, sa_, s0_, s1_, i64_w, i32_w]; rfl) ?_
  refine pu_ 1 (some 35) HT_ rfl rfl (.inl ⟨by rfl, by intro w'; go_simp; with_reducible rfl⟩) (by simp only [Act.put, sa_, s0_, s1_, i64_w, i32_w]; rfl) ?_
  refine pu_ 2 (some 36) HT_ rfl rfl (.inl ⟨by rfl, by intro w'; go_simp; with_reducible rfl⟩) (by simp only [Act.put, sa_, s0_, s1_, i64_w, i32_w]; rfl) ?_
  refine pu_ 3 (some 37) HT_ rfl rfl (.inl ⟨by rfl, by intro w'; go_simp; with_reducible rfl⟩) (by simp only [Act.put, sa_, s0_, s1_, i64_w, i32_w]; rfl) ?_
  refine tk_ 4 (some 38) HT_ HW_ rfl rfl (.inl ⟨by rfl, by rintro w' ⟨s0, s1, s2, s3, s4⟩; go_simp; with_reducible rfl⟩) hHeld (by simp only [Act.put, sa_, s0_, s1_, i64_w, i32_w]; rfl) ?_
  refine pu_ 5 (some 39) HT_ rfl rfl (.inl ⟨by rfl, by intro w'; go_simp; with_reducible rfl⟩) (by simp only [Act.put, sa_, s0_, s1_, i64_w, i32_w]; rfl) ?_
  refine pu_ 6 (some 40) HT_ rfl rfl (.inl ⟨by rfl, by intro w'; go_simp; with_reducible rfl⟩) (by simp only [Act.put, sa_, s0_, s1_, i64_w, i32_w]; rfl) ?_
  refine pu_ 7 (some 41) HT_ rfl rfl (.inl ⟨by rfl, by intro w'; go_simp; with_reducible rfl⟩) (by simp only [Act.put, sa_, s0_, s1_, i64_w, i32_w]; rfl) ?_
  refine pu_ 8 (some 42) HT_ rfl rfl (.inl ⟨by rfl, by intro w'; go_simp; with_reducible rfl⟩) (by simp only [Act.put, sa_, s0_, s1_, i64_w, i32_w]; rfl) ?_
  refine tk_ 9 (some 43) HT_ HW_ rfl rfl (.inl ⟨by rfl, by rintro w' ⟨s0, s1, s2, s3, s4⟩; go_simp; with_reducible rfl⟩) hHeld (by simp only [Act.put, sa_, s0_, s1_, i64_w, i32_w]; rfl) ?_
  refine tk_ 10 (some 44) HT_ HW_ rfl rfl (.inl ⟨by rfl, by rintro w' ⟨s0, s1, s2, s3, s4⟩; go_simp; with_reducible rfl⟩) hHeld (by simp only [Act.put, sa_, s0_, s1_, i64_w, i32_w]; rfl) ?_
  refine on_ 11 (some 45) HT_ rfl rfl (fun K hK => ?_)
  refine goes_ Try.func58 (by kernel_rfl) rfl #[.agg #[.slice A0 su.length c0, .slice A1 0 c1, .int .i64 (sq + 1), .int .i64 (half2 : Int), .int .i64 (n : Int)]] (by rfl) rfl rfl (by (try simp only [List.map_toArray, List.map_cons, List.map_nil]) <;> rfl) ?_
  refine (HM2.out _ HO.out).mono ?_
  rintro e W5 ⟨rfl, hb⟩
  refine ⟨_, rfl, ?_⟩
  have m0_ := am (below_step HO.out hb); have m1_ := am (blk_same Y1.out hb); have m2_ := am (blk_same Y2.out hb); clear HO Y1 Y2 hb; have HO := m0_; have Y1 := m1_; have Y2 := m2_; clear m0_ m1_ m2_
  refine hK.out _ _ (bc5 Y2) (fun hHeld => ?_)
  clear hK K
  refine norm_ (by show Act.put _ (some 45) _ = _; simp only [Act.put, sa_, s0_, s1_, i64_w, i32_w]; rfl) ?_
  refine pu_ 12 (some 46) HT_ rfl rfl (.inl ⟨by rfl, by intro w'; go_simp; with_reducible rfl⟩) (by simp only [Act.put, sa_, s0_, s1_, i64_w, i32_w]; rfl) ?_
  refine pu_ 13 (some 47) HT_ rfl rfl (.inl ⟨by rfl, by intro w'; go_simp; with_reducible rfl⟩) (by simp only [Act.put, sa_, s0_, s1_, i64_w, i32_w]; rfl) ?_
  refine on_ 14 none HT_ rfl rfl (fun K hK => ?_)
  have hc0 := (blk_cell Y1.out 0).trans rfl; have hf0 := blk_frozen Y1.out 0
  have hc1 := (blk_cell Y1.out 1).trans rfl; have hf1 := blk_frozen Y1.out 1
  have hc2 := (blk_cell Y1.out 2).trans rfl; have hf2 := blk_frozen Y1.out 2
  have hc3 := (blk_cell Y1.out 3).trans rfl; have hf3 := blk_frozen Y1.out 3
  have hc4 := (blk_cell Y1.out 4).trans rfl; have hf4 := blk_frozen Y1.out 4
  refine skip_ (by rfl) rfl (by go_simp; rfl) ?_
  clear hc0 hc1 hc2 hc3 hc4 hf0 hf1 hf2 hf3 hf4
  have k2 := br5 (i0 := 0) (i1 := 1) (i2 := 2) (i3 := 3) (i4 := 4) (a := .slice A0 su.length c0) (b := .slice A1 0 c1) (c := .int .i64 (sq + 1)) (d := .int .i64 (half2 : Int)) (e := .int .i64 (n : Int)) Y2.out (am (show w.heap.size + 1 + 1 ≠ w.heap.size + 1 by omega))
  have k1 := bp5 (a' := .slice A0 su.length c0) (b' := .slice A1 0 c1) (c' := .int .i64 (sq + 1)) (d' := .int .i64 (half2 : Int)) (e' := .int .i64 (n : Int)) Y1.out
  refine hK.out _ _ (bc5 (am k2)) (fun hHeld => ?_)
  clear hK K
  refine pu_ 15 (some 7) HT_ rfl rfl (.inl ⟨by rfl, by intro w'; go_simp; with_reducible rfl⟩) (by simp only [Act.put, sa_, s0_, s1_, i64_w, i32_w]; rfl) ?_
  refine pu_ 16 (some 8) HT_ rfl rfl (.inl ⟨by rfl, by intro w'; go_simp; with_reducible rfl⟩) (by simp only [Act.put, sa_, s0_, s1_, i64_w, i32_w]; rfl) ?_
  refine done_ (done_of HT_.out (by kernel_rfl)) ?_
  go_wp2
  exact bodyPost_ret (XB.resultsX_list (rs := [.cell 6 89, .tmp 7, .tmp 8]) rfl (by simp) (.cell (w.heap.size + 1) 89 #[.slice A0 su.length c0, .slice A1 0 c1, .int .i64 (sq + 1), .int .i64 (half2 : Int), .int .i64 (n : Int)] (0, 0) _ rfl k1 Try.underlying89 rfl (by kernel_rfl) (.tmp (.tmp .nil)))) rfl ⟨rfl, below_set (below_set (below_set (below_set (below_set (XW.out.trans (HO.out.mono XW.out.size)) (by omega)) (by omega)) (by omega)) (by omega)) (by omega)⟩
end Go.Proofs.Ytcfinlmocgbnbaa.Pr
end
section
namespace Go.Proofs.Ytcfinlmocgbnbaa.Pr
open Go.RowKit Go.Proofs.Ytcfinlmocgbnbaa.XB Go.Proofs.YtcfinlmocgbnbaaW.PrintWords
set_option linter.unusedVariables false
def leftK (all : ByteArray) (k : Nat) : ByteArray := all.extract (64 * k) all.size
def sizeK (n k : Nat) : Nat := min (n - 64 * k) 64
def sameK (same : Int) (k : Nat) : Int := max (same - 64 * (k : Int)) 0
def mvK (su : List ByteArray) (all : ByteArray) (same : Int) (at_ k : Nat) : List S24 :=
  if 0 < sizeK all.size k ∧ sameK same k < (sizeK all.size k : Int) then [⟨false, ((at_ + k : Nat) : Int), (leftK all k).extract 0 (sizeK all.size k) ++ (rdOf ByteArray.empty su ((at_ + k : Nat) : Int)).extract (sizeK all.size k) 64⟩] else []
def mvU (su : List ByteArray) (all : ByteArray) (same : Int) (at_ : Nat) : Nat → List S24
  | 0 => []
  | k + 1 => mvU su all same at_ k ++ mvK su all same at_ k
theorem left_zero (all : ByteArray) : leftK all 0 = all := by unfold leftK; simp
theorem left_size (all : ByteArray) (k : Nat) : (leftK all k).size = all.size - 64 * k := by unfold leftK; rw [ByteArray.size_extract]; omega
theorem left_next (all : ByteArray) (k : Nat) : (leftK all k).extract (sizeK all.size k) (leftK all k).size = leftK all (k + 1) := by
  unfold sizeK
  have h := left_size all k
  unfold leftK at *
  rw [ByteArray.extract_extract, h]
  by_cases hk : 64 ≤ all.size - 64 * k
  · rw [show min (all.size - 64 * k) 64 = 64 by omega]
    congr 1 <;> omega
  · rw [show min (all.size - 64 * k) 64 = all.size - 64 * k by omega]
    have e1 : (all.extract (64 * k + (all.size - 64 * k)) (min (64 * k + (all.size - 64 * k)) all.size)).size = 0 := by rw [ByteArray.size_extract]; omega
    have e2 : (all.extract (64 * (k + 1)) all.size).size = 0 := by rw [ByteArray.size_extract]; omega
    rw [ByteArray.size_eq_zero_iff] at e1 e2
    rw [e2]
    first | exact e1 | (rw [← e1]; congr 1; omega)
theorem same_zero {same : Int} (h : 0 ≤ same) : sameK same 0 = same := by unfold sameK; omega
theorem same_next {same : Int} (k : Nat) : max (sameK same k - 64) 0 = sameK same (k + 1) := by unfold sameK; omega
theorem same_range {same : Int} (h : 0 ≤ same) (h1 : same ≤ 1000000) (k : Nat) : 0 ≤ sameK same k ∧ sameK same k ≤ 1000000 := by unfold sameK; omega
theorem mvU_len (su : List ByteArray) (all : ByteArray) (same : Int) (at_ : Nat) : ∀ k, (mvU su all same at_ k).length ≤ k
  | 0 => by simp [mvU]
  | k + 1 => by
    have := mvU_len su all same at_ k
    have h : (mvK su all same at_ k).length ≤ 1 := by unfold mvK; split <;> simp
    simp only [mvU, List.length_append]
    omega
end Go.Proofs.Ytcfinlmocgbnbaa.Pr
end
section
set_option linter.unusedVariables false
namespace Go.Proofs.Ytcfinlmocgbnbaa.XB
open Go.RowKit Go.Proofs.YtcfinlmocgbnbaaW.PrintWords Go.Proofs.YtcfinlmocgbnbaaW.PrintLast
variable {P : Program} {ops : Array Oper} {md : Region.Mode} {l n : Nat} {Q : Exit → Act → World → Prop}
theorem op_round {o : Oper} {a : Act} {K : Act → World → Prop} {w : World} (hd : ∀ c, o.op ≠ .defer c) (h : o.wp P a w K Q) : o.wpIn (Fence.wide.inRound l) n P a w K Q := by
  refine ⟨fun _ _ => trivial, ?_⟩
  show o.uponIn (Fence.wide.inRound l) n P a K Q ((o.semAt (some l) a.eval).run P w)
  rw [Oper.semAt_some l _ _ hd]
  unfold Oper.wp at h
  generalize (execOp a.eval o).run P w = r at *
  cases r with
  | ok m w' =>
    cases m <;> simp only [Oper.upon] at h
    case value u => exact h
    case skip => exact h
    case defer d => exact h
    case enter f args => exact ⟨fun hx => (by cases hx), CallsIn.inRound l (callsIn_wide.2 h)⟩
    case row r args => exact ⟨fun hx => (by cases hx), fun c cs _ => let ⟨v, w', q, s⟩ := h c cs; ⟨v, w', q, stepsIn_wide.2 s⟩⟩
  | halt x w' => cases x <;> simp only [Oper.upon] at h <;> exact h
theorem any_round (hd : noDefer ops = true) (hno : ¬ LetsOut Q) : ∀ (fuel : Nat) (up : Array Bool) (a : Act) (w : World), wpAny P md ops Q fuel up a w → wpAnyIn (Fence.wide.inRound l) n P md ops Q fuel up a w
  | 0, _, _, _, h => h
  | fuel + 1, up, a, w, h => by
    refine ⟨h.1, fun i hi => ?_⟩
    have h2 := h.2 i hi
    unfold wpOp at h2
    unfold wpOpIn
    split
    · rename_i ho
      simp only [ho] at h2
      exact any_round hd hno fuel _ a w h2
    · rename_i o ho
      simp only [ho] at h2
      split
      · rename_i hw
        simp only [hw, if_true] at h2
        rcases h2 with h2 | ⟨_, h2⟩
        · exact op_round (noDefer_spec hd ho) (Oper.wp_mono (fun a' w' h3 => any_round hd hno fuel _ a' w' h3) h2)
        · exact absurd h2 hno
      · rename_i hw
        simp only [hw] at h2
        exact ⟨fun _ _ => trivial, any_round hd hno fuel _ _ w h2⟩
theorem round_start {S : World → Prop} {ds : List Nat} {id m : Nat} {a : Act} {w : World} (L : Array Bool) (hm : P.follows .mixedOrders = true) (hn : ops.size = m) (hl : Array.replicate m false = L) (hd : noDefer ops = true) (hno : ¬ LetsOut Q) (hS : S w.drew)
    (h : S w.drew → wpAnyLast P .any ops Q S ds m L a w.drew) : (Code.region id ops true).wpIn (Fence.wide.inRound l) n P Q a w := by
  subst hn
  subst hl
  exact wpIn_region_any hm (any_round hd hno _ _ _ _ (wpAny_of_last _ _ _ _ (h hS)))
end Go.Proofs.Ytcfinlmocgbnbaa.XB
end
section
namespace Go.Proofs.Ytcfinlmocgbnbaa.Pr
open Go.Proofs.Ytcfinlmocgbnbaa.Sq Go.RowKit Go.Shelf Go.Proofs.Ytcfinlmocgbnbaa.XB Go.Proofs.YtcfinlmocgbnbaaW.PrintWords Go.Proofs.YtcfinlmocgbnbaaW.PrintLast Go.Proofs.YtcfinlmocgbnbaaW.PrintMore
attribute [local go_sem] Oper.semAt_some
set_option linter.unusedVariables false
set_option linter.unusedSimpArgs false
set_option maxRecDepth 100000
theorem vblocks_at {A0 A1 : Option Addr} {n0 c0 n1 c1 : Nat} {sq hf ln half : Int} (w : World) :
    Calls Try.prog 62 #[.agg #[.slice A0 n0 c0, .slice A1 n1 c1, .int .i64 sq, .int .i64 hf, .int .i64 ln], .int .i64 half] w fun e w' => ∃ g1 g2 : Nat, e = .returned (.func (.func 81) #[] #[.pointer (some ⟨g1, 0, none⟩), .pointer (some ⟨g2, 0, none⟩)]) ∧ w.heap.size ≤ g1 ∧ w.heap.size ≤ g2 ∧
      w'.heap[g1]? = some (.cells #[.slice A0 n0 c0, .slice A1 n1 c1, .int .i64 sq, .int .i64 hf, .int .i64 ln] 89 (0, 0)) ∧ w'.heap[g2]? = some (.cells #[.int .i64 half] 3 (0, 0)) ∧ Below w.heap.size w w' := by
  go_enter Try.func62, Try.ntmps62
  go_wp2
  go_ret
  exact ⟨_, _, rfl, Nat.le_refl _, by simp, bkA (heap_alloc_new w _) _, heap_alloc2_new w _ _, below_alloc (below_alloc (Below.refl _ _) _) _⟩
theorem put10_ {w : World} {g : Nat} {t : TypeId} {a : Value} (h : w.heap[g]? = some (.cells #[a] t (0, 0))) (v : Value) : (w.setCell ⟨g, 0, none⟩ v).heap[g]? = some (.cells #[v] t (0, 0)) := blk_set h 0 v
theorem keeps_grown {B : Nat} {W w1 : World} {row : Option Nat} (hg : W.grownBy w1 row) (hr : ∀ r, row = some r → ∃ cs t fr, W.heap[r]? = some (.cells cs t fr)) : KeepsFrom B W w1 :=
  ⟨hg.size, fun k o _ hk hc => (hg.block k (Go.Proofs.YtcfinlmocgbnbaaW.PrintWords.blk_lt hk) (fun e => by obtain ⟨cs, t, fr, q⟩ := hr k e.symm; rw [q] at hk; cases hk; cases hc)).trans hk⟩
def MI (w : World) (b6 b8 b11 b12 g1 g2 : Nat) (cs cs2 : Array Value) (su : List ByteArray) (all : ByteArray) (same : Int) (at_ k : Nat) (W : World) : Prop :=
  VF w g1 g2 cs cs2 W ∧ W.heap[b8]? = some (.cells cs 89 (0, 0)) ∧ W.heap[b11]? = some (.cells #[.string (leftK all k)] 9 (0, 0)) ∧ W.heap[b12]? = some (.cells #[.int .i64 (sameK same k)] 3 (0, 0)) ∧
    ∃ v, W.heap[b6]? = some (.cells #[v] 28 (0, 0)) ∧ Kd.R k24 24 W w.heap.size (fun _ => True) v (mvU su all same at_ k)
section
variable {w : World} {b6 b8 b11 b12 g1 g2 : Nat} {cs cs2 : Array Value} {su : List ByteArray} {all : ByteArray} {same : Int} {at_ k : Nat}
theorem MI.own {B : Nat} (hB : w.heap.size ≤ B) : OwnW B (MI w b6 b8 b11 b12 g1 g2 cs cs2 su all same at_ k) :=
  .and (VF.own hB) (.and (.blk _ _ _ _) (.and (.blk _ _ _ _) (.and (.blk _ _ _ _) (.ex fun v => .and (.blk _ _ _ _) (.row _ _ _ _ _ _)))))
theorem MI.below {A B : World} (h : MI w b6 b8 b11 b12 g1 g2 cs cs2 su all same at_ k A) (hb : Below A.heap.size A B) : MI w b6 b8 b11 b12 g1 g2 cs cs2 su all same at_ k B := by
  obtain ⟨h1, h2, h3, h4, v, h5, h6⟩ := h
  exact ⟨h1.below hb, blk_same h2 hb, blk_same h3 hb, blk_same h4 hb, v, blk_same h5 hb, Kd.R_below h6 hb⟩
end
theorem R_put {α : Type} {d : Kd α} {e base : Nat} {ok : Nat → Prop} {v : Value} {xs : List α} {w : World} {g : Nat} {t : TypeId} {cs : Array Value} (h : d.R e w base ok v xs) (b : w.heap[g]? = some (.cells cs t (0, 0))) (ht : ∀ q, q ∈ e :: d.E → q ≠ t) (u : Value) : d.R e (w.setCell ⟨g, 0, none⟩ u) base ok v xs :=
  Kd.R_mono (rf1 (Kd.R_types h b ht) (fun _ hk => hk.2)) (fun _ h_ => h_.1)
theorem round_end {w : World} {b6 b8 b11 b12 g1 g2 B : Nat} {cs cs2 : Array Value} {su : List ByteArray} {all x L2 : ByteArray} {same y sm2 : Int} {at_ k : Nat} {U2 : List S24} {v : Value} {W Y Y9 : World}
    (n1 : b8 ≠ b11) (n2 : b8 ≠ b12) (n3 : b6 ≠ b11) (n4 : b6 ≠ b12) (n5 : b11 ≠ b12) (m1 : g1 ≠ b11) (m2 : g1 ≠ b12) (m3 : g2 ≠ b11) (m4 : g2 ≠ b12) (l1 : w.heap.size ≤ b11) (l2 : w.heap.size ≤ b12)
    (hK : KeepsFrom B W Y) (hV : VK w g1 g2 cs cs2 W Y) (hF : VF w g1 g2 cs cs2 W) (h8 : Y.heap[b8]? = some (.cells cs 89 (0, 0))) (h11 : Y.heap[b11]? = some (.cells #[.string x] 9 (0, 0))) (h12 : Y.heap[b12]? = some (.cells #[.int .i64 y] 3 (0, 0))) (h6 : Y.heap[b6]? = some (.cells #[v] 28 (0, 0))) (hR : Kd.R k24 24 Y w.heap.size (fun _ => True) v U2)
    (hb : Below Y.heap.size Y Y9) (eL : leftK all (k + 1) = L2) (eS : sameK same (k + 1) = sm2) (eU : mvU su all same at_ (k + 1) = U2) :
    KeepsFrom B W ((Y9.setCell ⟨b11, 0, none⟩ (.string L2)).setCell ⟨b12, 0, none⟩ (.int .i64 sm2)) ∧ VK w g1 g2 cs cs2 W ((Y9.setCell ⟨b11, 0, none⟩ (.string L2)).setCell ⟨b12, 0, none⟩ (.int .i64 sm2)) ∧ MI w b6 b8 b11 b12 g1 g2 cs cs2 su all same at_ (k + 1) ((Y9.setCell ⟨b11, 0, none⟩ (.string L2)).setCell ⟨b12, 0, none⟩ (.int .i64 sm2)) := by
  have V : VK w g1 g2 cs cs2 W ((Y9.setCell ⟨b11, 0, none⟩ (.string L2)).setCell ⟨b12, 0, none⟩ (.int .i64 sm2)) := fun q => by
    obtain ⟨q1, q2, q3⟩ := (hV q).below hb
    exact ⟨blk_far (p := ⟨b12, 0, none⟩) (blk_far (p := ⟨b11, 0, none⟩) q1 m1 _) m2 _, blk_far (p := ⟨b12, 0, none⟩) (blk_far (p := ⟨b11, 0, none⟩) q2 m3 _) m4 _, below_set (below_set q3 l1) l2⟩
  have c11 := blk_same h11 hb
  have c12 := blk_far (p := ⟨b11, 0, none⟩) (blk_same h12 hb) (Ne.symm n5) (.string L2)
  refine ⟨keeps_set (keeps_set (hK.trans (keeps_below hb)) _ _) _ _, V, V hF, blk_far (p := ⟨b12, 0, none⟩) (blk_far (p := ⟨b11, 0, none⟩) (blk_same h8 hb) n1 _) n2 _, ?_, ?_, v, blk_far (p := ⟨b12, 0, none⟩) (blk_far (p := ⟨b11, 0, none⟩) (blk_same h6 hb) n3 _) n4 _, ?_⟩
  · rw [eL]; exact blk_far (p := ⟨b12, 0, none⟩) (put10_ c11 _) n5 _
  · rw [eS]; exact put10_ c12 _
  · rw [eU]; exact R_put (R_put (Kd.R_below hR hb) c11 (by decide) _) c12 (by decide) _
def vmv.T12 : Bool × List (List Nat × List Nat) := (true, [([], []), ([], []), ([], []), ([], []), ([2, 3], [2, 3]), ([], []), ([], []), ([5, 6], [5, 6]), ([4, 7], [4, 7]), ([1, 8], [1, 8]), ([9], [9]), ([0, 10], [0, 10]), ([11, 11, 0, 1, 2, 3, 4, 5, 6, 7, 8, 9, 10, 11], [11])])
def vmv.B12 : List Nat := [0, 0, 0, 0, 12, 0, 0, 96, 252, 510, 1022, 2047, 4095]
theorem vmv.tab12 : rtab .any (opsOf Try.f37 12) = vmv.T12 := by kernel_rfl
theorem vmv.bits12 : waitsOk vmv.T12.2 vmv.B12 = true := by kernel_rfl
def vmv.T13 : Bool × List (List Nat × List Nat) := (true, [([], []), ([], []), ([0, 1], [0, 1]), ([], []), ([3], [3]), ([4], [4]), ([2, 0, 1, 2], [2]), ([5, 6, 0, 1, 2, 3, 4, 5, 6], [5])])
def vmv.B13 : List Nat := [0, 0, 3, 0, 8, 24, 7, 127]
theorem vmv.tab13 : rtab .any (opsOf Try.f37 13) = vmv.T13 := by kernel_rfl
theorem vmv.bits13 : waitsOk vmv.T13.2 vmv.B13 = true := by kernel_rfl
def vmv.T15 : Bool × List (List Nat × List Nat) := (true, [([], []), ([], []), ([], []), ([1, 2], [1, 2]), ([], []), ([], []), ([], []), ([6, 2], [6]), ([5, 7], [5, 7]), ([], []), ([3, 4, 8, 9], [3, 4, 8, 9]), ([0, 10, 7], [0, 10]), ([11, 11, 0, 1, 2, 3, 4, 5, 6, 7, 8, 9, 10, 11], [11]), ([12, 0, 1, 2, 3, 4, 5, 6, 7, 8, 9, 10, 11, 12], [])])
def vmv.B15 : List Nat := [0, 0, 0, 6, 0, 0, 0, 68, 228, 0, 1022, 2047, 4095, 8191]
theorem vmv.tab15 : rtab .any (opsOf Try.f37 15) = vmv.T15 := by kernel_rfl
theorem vmv.bits15 : waitsOk vmv.T15.2 vmv.B15 = true := by kernel_rfl
set_option maxHeartbeats 8000000 in
theorem vmoves_calls (kh : Nat) {su : List ByteArray} {A0 A1 : Option Addr} {c0 c1 wd half n : Nat} {sq hf ln rm : Int} {s all hd : ByteArray} {ins : Bool} (w : World)
    (hsu : Kd.C Kd.string w A0 su.length su) (hc0 : su.length ≤ c0) (hso : Kd.C k24 w A1 0 ([] : List S24))
    (hR : ∀ W, Below w.heap.size w W → Calls Try.prog 36 #[.agg #[.slice A0 su.length c0, .slice A1 0 c1, .int .i64 sq, .int .i64 hf, .int .i64 ln]] W fun e w' => e = .returned (.bool true) ∧ Below W.heap.size W w')
    (hN : ∀ W, Below w.heap.size w W → Calls Try.prog 59 #[.agg #[.slice A0 su.length c0, .slice A1 0 c1, .int .i64 sq, .int .i64 hf, .int .i64 ln], .string s, .bool ins] W fun e w' => e = .returned (.tuple #[.agg #[.slice A0 su.length c0, .slice A1 0 c1, .int .i64 (sq + 1), .int .i64 (half : Int), .int .i64 (n : Int)], .string all, .bool true]) ∧ Below W.heap.size W w')
    (hal : all.size = n) (hsn : s.size ≤ n) (hn : n ≤ 1000000) (hw : vault_book_wide.f su [] (sq + 1) half n = some (wd : Int)) (hwd : 2 + 2 * wd ≤ su.length) (hl : su.length ≤ 1000) (hh : half ≤ 1) {p : Nat} (hp : half * wd = p)
    (hz : ∀ s ∈ su, s.size = 64) (hhd : vault_book_head.f kh su [] (sq + 1) half n = some hd) (hq0 : 0 ≤ sq) (hq1 : sq + 1 ≤ 1099511627776) :
    Calls Try.prog 37 #[.agg #[.slice A0 su.length c0, .slice A1 0 c1, .int .i64 sq, .int .i64 hf, .int .i64 ln], .string s, .bool ins] w fun e w' => ∃ v, e = .returned (.tuple #[v, .int .i64 0]) ∧ Kd.R k24 24 w' w.heap.size (fun _ => True) v (mvU su all ((n : Int) - (s.size : Int)) (2 + p) wd ++ [⟨false, (sq + 1).tmod 2, blank⟩, ⟨true, 0, ⟨#[]⟩⟩, ⟨false, (sq + 1).tmod 2, hd⟩, ⟨true, 0, ⟨#[]⟩⟩]) ∧ Below w.heap.size w w' := by
  have hp1 : p ≤ wd := by rw [← hp]; exact Nat.le_trans (Nat.mul_le_mul_right wd hh) (by omega)
  have HR := Lib.hid hR
  have HN := Lib.hid hN
  have HAL := Lib.hid hal
  have HH := Lib.hid (show ∀ W, Below w.heap.size w W → Calls Try.prog 56 #[.agg #[.slice A0 su.length c0, .slice A1 0 c1, .int .i64 (sq + 1), .int .i64 (half : Int), .int .i64 (n : Int)]] W fun e w' => e = .returned (.string hd) ∧ Below W.heap.size W w' from fun W h => vault_book_head.calls kh _ _ su _ c1 [] _ _ _ hd W (Kd.C_below hsu h) hc0 (Kd.C_below hso h) (Nat.zero_le _) hhd)
  clear hR hN hal hhd
  refine (callsIn_wide (n := 9)).1 (callsIn_of_wp_marks Try.func37 rfl trivial ?_ rfl)
  refine XB.QM_wp ?_
  simp only [Try.ntmps37, List.size_toArray, List.length_cons, List.length_nil, Nat.reduceAdd, Nat.reduceSub, Array.replicate_succ, Array.replicate_zero, List.push_toArray, List.append_toArray, List.nil_append, List.cons_append]
  go_wp2_with fail
  generalize hW0 : World.alloc (World.alloc w _) _ = W0
  have F3 : W0.heap[w.heap.size]? = some (.cells #[.slice A0 su.length c0, .slice A1 0 c1, .int .i64 sq, .int .i64 hf, .int .i64 ln] 56 (0, 0)) := by rw [← hW0]; exact heap_alloc2_old w _ _
  have F6 : W0.heap[w.heap.size + 1]? = some (.cells #[.slice none 0 0] 28 (0, 0)) := by rw [← hW0]; exact heap_alloc2_new w _ _
  have FB : Below w.heap.size w W0 := by rw [← hW0]; exact below_alloc (below_alloc (Below.refl _ _) _) _
  clear hW0
  refine (HR.out W0 FB).mono ?_
  rintro e W1 ⟨rfl, hb⟩
  have G3 := Lib.hid (blk_same F3 hb)
  have G6 := Lib.hid (blk_same F6 hb)
  have GB := Lib.hid (below_step FB hb)
  have c_0 := (blk_cell G3.out 0).trans rfl
  have c_1 := (blk_cell G3.out 1).trans rfl
  have c_2 := (blk_cell G3.out 2).trans rfl
  have c_3 := (blk_cell G3.out 3).trans rfl
  have c_4 := (blk_cell G3.out 4).trans rfl
  clear hb F3 F6 FB HR W0
  go_wp2_with fail
  refine (HN.out W1 GB.out).mono ?_
  rintro e W2 ⟨rfl, hb⟩
  have G6b := Lib.hid (blk_same G6.out hb)
  have GBb := Lib.hid (below_step GB.out hb)
  have hal := HAL.out
  clear hb c_0 c_1 c_2 c_3 c_4 G3 G6 GB W1 HN
  go_wp2_with fail
  obtain ⟨same, hsame⟩ : ∃ same : Int, (n : Int) - (s.size : Int) = same := ⟨_, rfl⟩
  have hs0 : 0 ≤ same := by omega
  have hs1 : same ≤ 1000000 := by omega
  generalize hX : World.alloc (World.alloc (World.alloc W2 _) _) _ = X
  have X6 : X.heap[w.heap.size + 1]? = some (.cells #[.slice none 0 0] 28 (0, 0)) := by rw [← hX]; exact bkA (bkA (bkA G6b.out _) _) _
  have X8 : X.heap[W2.heap.size]? = some (.cells #[.slice A0 su.length c0, .slice A1 0 c1, .int .i64 (sq + 1), .int .i64 (half : Int), .int .i64 (n : Int)] 89 (0, 0)) := by rw [← hX]; exact (boxes3 W2 _ _ _).1
  have X11 : X.heap[W2.heap.size + 1]? = some (.cells #[.string all] 9 (0, 0)) := by rw [← hX]; exact (boxes3 W2 _ _ _).2.1
  have X12 : X.heap[W2.heap.size + 1 + 1]? = some (.cells #[.int .i64 same] 3 (0, 0)) := by rw [← hX, ← hsame]; exact (boxes3 W2 _ _ _).2.2
  have XW : Below w.heap.size w X := by rw [← hX]; exact below_alloc (below_alloc (below_alloc GBb.out _) _) _
  have hlt6 : w.heap.size + 1 < W2.heap.size := Go.Proofs.YtcfinlmocgbnbaaW.PrintWords.blk_lt G6b.out
  clear hX G6b GBb
  refine (vblocks_at X).mono ?_
  rintro e W3 ⟨g1, g2, rfl, hg1, hg2, hb1, hb2, hbb⟩
  have Y6 := blk_same X6 hbb
  have Y8 := blk_same X8 hbb
  have Y11 := blk_same X11 hbb
  have Y12 := blk_same X12 hbb
  have YW := below_step XW hbb
  have hlt12 : W2.heap.size + 1 + 1 < X.heap.size := Go.Proofs.YtcfinlmocgbnbaaW.PrintWords.blk_lt X12
  have ng1 : g1 ≠ w.heap.size + 1 := by omega
  have ng2 : g2 ≠ w.heap.size + 1 := by omega
  have mg1 : g1 ≠ W2.heap.size + 1 := by omega
  have mg2 : g2 ≠ W2.heap.size + 1 := by omega
  have kg1 : g1 ≠ W2.heap.size + 1 + 1 := by omega
  have kg2 : g2 ≠ W2.heap.size + 1 + 1 := by omega
  clear hbb X6 X8 X11 X12 XW hg1 hg2 hlt12
  go_wp2_with fail
  have hU0 : Kd.R k24 24 W3 w.heap.size (fun _ => True) (.slice none 0 0) (mvU su all same (2 + p) 0) := Kd.R_nil k24 24 W3 w.heap.size (fun _ => True)
  refine wp_range2 (n := 9) (by omega) (gf := 81) (lb := #[.pointer (some ⟨g1, 0, none⟩), .pointer (some ⟨g2, 0, none⟩)]) rfl (enters_of Try.func81 (by kernel_rfl) rfl) (fun k => .int .i64 ((2 + p + k : Nat) : Int)) (fun k => .string (rdOf ByteArray.empty su ((2 + p + k : Nat) : Int))) wd
    (vblocks_seq2 8 (by omega) w g1 g2 hsu hc0 hso hw hwd hl hh hp) (VF.own YW.size) ⟨hb1, hb2, YW⟩ (fun A B h => keeps_below h) (fun h k q => k (h q)) (fun W l o o' h1 h2 h3 => VK.put YW.size W l o o' h1 h2 h3) (by simp) (by simp) (by decide) (by decide)
    (MI w (w.heap.size + 1) W2.heap.size (W2.heap.size + 1) (W2.heap.size + 1 + 1) g1 g2 #[.slice A0 su.length c0, .slice A1 0 c1, .int .i64 (sq + 1), .int .i64 (half : Int), .int .i64 (n : Int)] #[.int .i64 (half : Int)] su all same (2 + p)) (fun _ _ _ => False) (fun k => MI.own YW.size) (fun _ _ => .pure _) (fun k A B h ht => h.below ht) (fun _ _ _ _ h _ => h)
    ⟨⟨hb1, hb2, YW⟩, Y8, by rw [left_zero]; exact Y11, by rw [same_zero hs0]; exact Y12, _, Y6, hU0⟩ ?body ?done (fun _ _ _ _ _ _ h _ => h.elim)
  case done =>
    rintro D W hD ⟨hF, h8, h11, h12, v, h6, hRv⟩ hDD
    have hUl := mvU_len su all same (2 + p) wd
    obtain ⟨Av, cv, ev⟩ := Kd.R_slice hRv
    subst ev
    have HSM := Lib.hid hsame
    clear hb1 hb2 Y6 Y8 Y11 Y12 hU0 h11 h12 hsame
    generalize hUU : mvU su all same (2 + p) wd = U at *
    have HUU := Lib.hid hUU
    clear hUU
    obtain ⟨ta, hta⟩ : ∃ ta : Int, (sq + 1).tmod 2 = ta := ⟨_, rfl⟩
    have hta2 : (sq + 1) % 2 = ta := by rw [← hta]; exact (Int.tmod_eq_emod_of_nonneg (by omega)).symm
    have HTA := Lib.hid hta
    have c8_1 := (blk_cell h8 2).trans rfl
    have B6 := am h6
    have B8 := am h8
    have BF := am hF.2.2
    have BD := am hDD
    have BR := am hRv
    have HLU := am (show U.length ≤ 1000 by omega)
    have nD : D ≠ w.heap.size + 1 := by have := Go.Proofs.YtcfinlmocgbnbaaW.PrintWords.blk_lt B6.out; rintro rfl; rw [B6.out] at hDD; cases hDD
    clear hF h8 h6 hDD hRv hUl hw hsu hso hal HAL hz
    go_wp2_with fail
    obtain ⟨F4, hF4⟩ : ∃ F4 : List S24, F4 = [(⟨false, ta, blank⟩ : S24), (⟨true, 0, (⟨#[]⟩ : ByteArray)⟩ : S24), (⟨false, ta, hd⟩ : S24), (⟨true, 0, (⟨#[]⟩ : ByteArray)⟩ : S24)] := ⟨_, rfl⟩
    have HF4 := am hF4
    have F4L := am (show F4.length = 4 by rw [hF4]; rfl)
    clear hF4
    have m0_ := am (Go.Proofs.YtcfinlmocgbnbaaW.PrintWords.bkD B6.out); have m1_ := am (Go.Proofs.YtcfinlmocgbnbaaW.PrintWords.bkD B8.out); have m2_ := am (below_step BF.out (below_drew1 (Below.refl W.heap.size W))); have m3_ := am (Go.Proofs.YtcfinlmocgbnbaaW.PrintWords.bkD BD.out); have m4_ := am (Kd.R_drew BR.out); clear B6 B8 BF BD BR; have B6 := m0_; have B8 := m1_; have BF := m2_; have BD := m3_; have BR := m4_; clear m0_ m1_ m2_ m3_ m4_
    refine start_ (n := 14) (S := fun w' => w'.cell? ⟨w.heap.size + 1, 0, none⟩ = some (.slice Av U.length cv) ∧ w'.cell? ⟨W2.heap.size, 0, none⟩ = some (.slice A0 su.length c0) ∧ w'.cell? ⟨W2.heap.size, 1, none⟩ = some (.slice A1 0 c1) ∧ w'.cell? ⟨W2.heap.size, 2, none⟩ = some (.int .i64 (sq + 1)) ∧ w'.cell? ⟨W2.heap.size, 3, none⟩ = some (.int .i64 (half : Int)) ∧ w'.cell? ⟨W2.heap.size, 4, none⟩ = some (.int .i64 (n : Int))) (ds := [12]) #[false, false, false, false, false, false, false, false, false, false, false, false, false, false] (by kernel_rfl) rfl rfl ⟨(blk_cell B6.out 0).trans rfl, (blk_cell B8.out 0).trans rfl, (blk_cell B8.out 1).trans rfl, (blk_cell B8.out 2).trans rfl, (blk_cell B8.out 3).trans rfl, (blk_cell B8.out 4).trans rfl⟩ (fun hHeld => ?_); refine with_tabW vmv.tab15 vmv.bits15 (fun HT_ HW_ => ?_)
    generalize W.drew = W9 at B6 B8 BF BD BR hHeld ⊢
    refine tk_ 0 (some 76) HT_ HW_ rfl rfl (.inl ⟨by rfl, by rintro w' ⟨s0, s1, s2, s3, s4, s5⟩; go_simp; with_reducible rfl⟩) hHeld (by simp only [Act.put, sa_, s0_, s1_, i64_w, i32_w]; rfl) ?_
    refine pu_ 1 (some 77) HT_ rfl rfl (.inl ⟨by rfl, by intro w'; go_simp; with_reducible rfl⟩) (by simp only [Act.put, sa_, s0_, s1_, i64_w, i32_w]; rfl) ?_
    refine pu_ 4 (some 80) HT_ rfl rfl (.inl ⟨by rfl, by intro w'; go_simp; with_reducible rfl⟩) (by simp only [Act.put, sa_, s0_, s1_, i64_w, i32_w]; rfl) ?_
    refine pu_ 5 (some 81) HT_ rfl rfl (.inl ⟨by rfl, by intro w'; go_simp; with_reducible rfl⟩) (by simp only [Act.put, sa_, s0_, s1_, i64_w, i32_w]; rfl) ?_
    refine tk_ 6 (some 82) HT_ HW_ rfl rfl (.inl ⟨by rfl, by rintro w' ⟨s0, s1, s2, s3, s4, s5⟩; go_simp; with_reducible rfl⟩) hHeld (by simp only [Act.put, sa_, s0_, s1_, i64_w, i32_w]; rfl) ?_
    refine pu_ 9 (some 85) HT_ rfl rfl (.inl ⟨by rfl, by intro w'; go_simp; with_reducible rfl⟩) (by simp only [Act.put, sa_, s0_, s1_, i64_w, i32_w]; rfl) ?_
    refine on_ 2 (some 78) HT_ rfl rfl (fun K hK => ?_)
    refine goes_ Try.func57 (by kernel_rfl) rfl #[] (by rfl) rfl rfl (by (try simp only [List.map_toArray, List.map_cons, List.map_nil]) <;> rfl) ?_
    refine (vault_blank.calls blank _ rfl).mono ?_
    rintro e W5 ⟨rfl, hb⟩
    refine ⟨_, rfl, ?_⟩
    have m0_ := am (blk_same B6.out hb); have m1_ := am (blk_same B8.out hb); have m2_ := am (below_step BF.out hb); have m3_ := am (blk_same BD.out hb); have m4_ := am (Kd.R_below BR.out hb); clear B6 B8 BF BD BR; have B6 := m0_; have B8 := m1_; have BF := m2_; have BD := m3_; have BR := m4_; clear m0_ m1_ m2_ m3_ m4_
    clear hb
    refine hK.out _ _ ⟨(blk_cell B6.out 0).trans rfl, (blk_cell B8.out 0).trans rfl, (blk_cell B8.out 1).trans rfl, (blk_cell B8.out 2).trans rfl, (blk_cell B8.out 3).trans rfl, (blk_cell B8.out 4).trans rfl⟩ (fun hHeld => ?_)
    clear hK K
    refine norm_ (by show Act.put _ (some 78) _ = _; simp only [Act.put, sa_, s0_, s1_, i64_w, i32_w]; rfl) ?_
    refine pu_ 3 (some 79) HT_ rfl rfl (.inl ⟨by rfl, by intro w'; go_simp; with_reducible rfl⟩) (by simp only [Act.put, sa_, s0_, s1_, i64_w, i32_w]; rfl) ?_
    refine on_ 7 (some 83) HT_ rfl rfl (fun K hK => ?_)
    refine goes_ Try.func56 (by kernel_rfl) rfl #[.agg #[.slice A0 su.length c0, .slice A1 0 c1, .int .i64 (sq + 1), .int .i64 (half : Int), .int .i64 (n : Int)]] (by rfl) rfl rfl (by (try simp only [List.map_toArray, List.map_cons, List.map_nil]) <;> rfl) ?_
    refine (HH.out _ BF.out).mono ?_
    rintro e W5 ⟨rfl, hb⟩
    refine ⟨_, rfl, ?_⟩
    have m0_ := am (blk_same B6.out hb); have m1_ := am (blk_same B8.out hb); have m2_ := am (below_step BF.out hb); have m3_ := am (blk_same BD.out hb); have m4_ := am (Kd.R_below BR.out hb); clear B6 B8 BF BD BR; have B6 := m0_; have B8 := m1_; have BF := m2_; have BD := m3_; have BR := m4_; clear m0_ m1_ m2_ m3_ m4_
    clear hb
    refine hK.out _ _ ⟨(blk_cell B6.out 0).trans rfl, (blk_cell B8.out 0).trans rfl, (blk_cell B8.out 1).trans rfl, (blk_cell B8.out 2).trans rfl, (blk_cell B8.out 3).trans rfl, (blk_cell B8.out 4).trans rfl⟩ (fun hHeld => ?_)
    clear hK K
    refine norm_ (by show Act.put _ (some 83) _ = _; simp only [Act.put, sa_, s0_, s1_, i64_w, i32_w]; rfl) ?_
    refine pu_ 8 (some 84) HT_ rfl rfl (.inl ⟨by rfl, by intro w'; go_simp; with_reducible rfl⟩) (by simp only [Act.put, sa_, s0_, s1_, i64_w, i32_w]; rfl) ?_
    refine on_ 10 (some 86) HT_ rfl rfl (fun K hK => ?_)
    refine Kd.R_lit_step k24 _ 24 ?hg (N := 86) ?hd (xs := ([(⟨false, ta, blank⟩ : S24), (⟨true, 0, (⟨#[]⟩ : ByteArray)⟩ : S24), (⟨false, ta, hd⟩ : S24), (⟨true, 0, (⟨#[]⟩ : ByteArray)⟩ : S24)] : List S24)) (inner := [.bool false, .int .i64 ta, .string blank, .bool true, .int .i64 0, .string (⟨#[]⟩ : ByteArray), .bool false, .int .i64 ta, .string hd, .bool true, .int .i64 0, .string (⟨#[]⟩ : ByteArray)]) (ok := fun _ => True) (okp := fun _ => True) ?hr ?hp (fun _ hk => hk) trivial (Below.refl _ _) (Nat.le_refl _) (by simp) ?_; (case hd => rfl); (case hg => rfl); (case hr => first | (go_simp; done) | (go_simp; rfl)); (case hp => exact (Reps.c3 (show Kd.M k24 _ _ _ (⟨false, ta, blank⟩ : S24) [.bool false, .int .i64 ta, .string blank] from (k24_mkM _ _ _ (⟨false, ta, blank⟩ : S24))) (Reps.c3 (show Kd.M k24 _ _ _ (⟨true, 0, (⟨#[]⟩ : ByteArray)⟩ : S24) [.bool true, .int .i64 0, .string (⟨#[]⟩ : ByteArray)] from (k24_mkM _ _ _ (⟨true, 0, (⟨#[]⟩ : ByteArray)⟩ : S24))) (Reps.c3 (show Kd.M k24 _ _ _ (⟨false, ta, hd⟩ : S24) [.bool false, .int .i64 ta, .string hd] from (k24_mkM _ _ _ (⟨false, ta, hd⟩ : S24))) (Reps.c3 (show Kd.M k24 _ _ _ (⟨true, 0, (⟨#[]⟩ : ByteArray)⟩ : S24) [.bool true, .int .i64 0, .string (⟨#[]⟩ : ByteArray)] from (k24_mkM _ _ _ (⟨true, 0, (⟨#[]⟩ : ByteArray)⟩ : S24))) (Reps.none _ _))))))
    intro vl w82 hol hb hg_ hnew_
    clear hg_ hnew_
    rw [← HF4.out] at hol
    have m0_ := am (blk_same B6.out hb); have m1_ := am (blk_same B8.out hb); have m2_ := am (below_step BF.out hb); have m3_ := am (blk_same BD.out hb); have m4_ := am (Kd.R_elder' BR.out (Kd.R_base hol) hb); have HL := am (Kd.R_lower (Kd.R_new' hol (Kd.R_lt BR.out)) BF.out.size); clear B6 B8 BF BD BR; have B6 := m0_; have B8 := m1_; have BF := m2_; have BD := m3_; have BR := m4_; clear m0_ m1_ m2_ m3_ m4_ hb hol
    obtain ⟨Ao85, co85, eo85⟩ := Kd.R_slice HL.out
    subst eo85
    refine hK.out _ _ ⟨(blk_cell B6.out 0).trans rfl, (blk_cell B8.out 0).trans rfl, (blk_cell B8.out 1).trans rfl, (blk_cell B8.out 2).trans rfl, (blk_cell B8.out 3).trans rfl, (blk_cell B8.out 4).trans rfl⟩ (fun hHeld => ?_)
    clear hK K
    refine norm_ (by show Act.put _ (some 86) _ = _; simp only [Act.put, sa_, s0_, s1_, i64_w, i32_w]; rfl) ?_
    refine on_ 11 (some 87) HT_ rfl rfl (fun K hK => ?_)
    refine Kd.R_append_rows_step k24 (w0 := w) w.heap.size (by rfl) (.tmp 76) (.tmp 86) 28 24 (.agg #[(.bool false), (.int .i64 0), (.string ⟨#[]⟩)]) 32 rfl Try.underlying28 info24 rfl (by decide) (by omega) (.slice Av U.length cv) U F4 _ _ _ (fun k_ => some k_ ≠ (.slice Ao85 F4.length co85 : Value).ownBlock) (fun _ => False) rfl rfl ?aO ?aR (fun _ _ h => h) (fun _ h => h.elim) ?aF ?aB ?aS ?aL ?_
    (case aR => exact (Kd.R_reads' HL.out).2.2)
    (case aB => exact BF.out)
    (case aF => exact (fun k_ hk => Kd.fresh' (Kd.R_lt HL.out) k_ hk))
    (case aO => exact (pm BR (fun _ hk => hk.2)))
    (case aS => exact BF.out.size)
    (case aL => have := HLU.out; have := F4L.out; omega)
    intro vz w84 ho hb hg hat
    obtain ⟨Az, cz, ez⟩ := Kd.R_slice ho
    generalize (U ++ F4).length = nz at ez
    subst ez
    have N6 := am (blk_grown B6.out hg (Kd.R_ne BR.out B6.out (by decide)))
    have N8 := am (blk_grown B8.out hg (Kd.R_ne BR.out B8.out (by decide)))
    have ND := am (blk_grown BD.out hg (fun e => by obtain ⟨cells, hc⟩ := Kd.R_typed BR.out D e.symm; rw [BD.out] at hc; cases hc))
    have NB := am hb; have NO := am (Kd.R_mono ho (fun _ _ => True.intro)); clear B6 B8 BF BD BR HL hb ho hg hat
    refine hK.out _ _ ⟨(blk_cell N6.out 0).trans rfl, (blk_cell N8.out 0).trans rfl, (blk_cell N8.out 1).trans rfl, (blk_cell N8.out 2).trans rfl, (blk_cell N8.out 3).trans rfl, (blk_cell N8.out 4).trans rfl⟩ (fun hHeld => ?_)
    clear hK K
    refine norm_ (by show Act.put _ (some 87) _ = _; simp only [Act.put, sa_, s0_, s1_, i64_w, i32_w]; rfl) ?_
    refine la_ 12 none HT_ rfl rfl (fun K hK => ?_)
    have hs1 := (blk_cell N6.out 0).trans rfl; have hf1 := blk_frozen N6.out 0
    refine skip_ (by rfl) rfl (by go_simp; rfl) ?_
    refine hK.out _ _ ?_
    clear hK K hs1 hf1
    refine pu_ 13 (some 7) HT_ rfl rfl (.inl ⟨by rfl, by intro w'; go_simp; with_reducible rfl⟩) (by simp only [Act.put, sa_, s0_, s1_, i64_w, i32_w]; rfl) ?_
    refine done_ (done_of HT_.out (by kernel_rfl)) ?_
    have D6 := am (put10_ N6.out (.slice Az nz cz))
    have DD := am ((Below.heap_setCell w84 ⟨w.heap.size + 1, 0, none⟩ (.slice Az nz cz) D nD).trans ND.out)
    have DO := am (R_put NO.out N6.out (by decide) (.slice Az nz cz))
    have DB := am (below_set NB.out (show w.heap.size ≤ w.heap.size + 1 by omega) (j := 0) (v := .slice Az nz cz))
    clear N6 N8 NO NB HT_ HW_ hHeld ND
    generalize w84.setCell ⟨w.heap.size + 1, 0, none⟩ (.slice Az nz cz) = Z at *
    go_wp2
    have hO : OwnW w.heap.size (fun X => X.heap[w.heap.size + 1]? = some (.cells #[.slice Az nz cz] 28 (0, 0)) ∧ Kd.R k24 24 X w.heap.size (fun _ => True) (.slice Az nz cz) (U ++ F4) ∧ Below w.heap.size w X) := .and (.blk _ _ _ _) (.and (.row _ _ _ _ _ _) (.below (Nat.le_refl _) (Nat.le_refl _)))
    obtain ⟨e6, eR, eB⟩ := hO.putObj (.deferred none) ⟨D6.out, DO.out, DB.out⟩ (Nat.le_trans YW.size hD) DD.out rfl
    refine XB.QM_ret (.inl rfl) DD.out (XB.resultsX_list (rs := [.cell 6 28, .tmp 7]) rfl (by simp) (.one (w.heap.size + 1) 28 (.slice Az nz cz) (0, 0) _ rfl e6 Try.underlying28 rfl (.tmp .nil))) ⟨_, rfl, ?_, eB⟩
    rw [HSM.out, HUU.out, HTA.out, ← HF4.out]
    exact eR
  case body =>
    rintro l k W ⟨hF, h8, h11, h12, v, h6, hRv⟩ hk
    clear hb1 hb2 Y6 Y8 Y11 Y12 hU0
    have hps := rdS_size hz (b := ((2 + p + k : Nat) : Int)) (by omega) (by omega)
    have hlz := left_size all k
    have hln := left_next all k
    have hsm := same_next (same := same) k
    obtain ⟨hm0, hm1⟩ := same_range hs0 hs1 k
    have hmk : mvU su all same (2 + p) (k + 1) = mvU su all same (2 + p) k ++ mvK su all same (2 + p) k := rfl
    have hUl := mvU_len su all same (2 + p) k
    unfold mvK at hmk
    unfold sizeK at hln hmk
    rw [hal] at hlz hmk hln
    obtain ⟨z, hzz⟩ : ∃ z : Nat, min (n - 64 * k) 64 = z := ⟨_, rfl⟩
    have hmin : min ((n - 64 * k : Nat) : Int) 64 = (z : Int) := by omega
    have hzm : z ≤ n - 64 * k := by omega
    have hz64 : z ≤ 64 := by omega
    rw [hzz] at hmk hln
    obtain ⟨m, hm⟩ : ∃ m : Nat, n - 64 * k = m := ⟨_, rfl⟩
    rw [hm] at hlz hmin hzm
    have hm2 : m ≤ 1000000 := by omega
    clear hm hzz
    generalize hL2 : leftK all (k + 1) = L2 at *
    generalize leftK all k = L at *
    generalize hS2 : sameK same (k + 1) = sm2 at *
    generalize sameK same k = sm at *
    generalize hU2 : mvU su all same (2 + p) (k + 1) = U2 at *
    generalize mvU su all same (2 + p) k = U at *
    obtain ⟨at_, hat⟩ : ∃ at_ : Nat, 2 + p + k = at_ := ⟨_, rfl⟩
    rw [hat] at hps hmk ⊢
    generalize rdOf ByteArray.empty su (at_ : Int) = old at *
    rw [hlz] at hln
    have HL2 := Lib.hid hL2
    have HS2 := Lib.hid hS2
    have HU2 := Lib.hid hU2
    have HMK := Lib.hid hmk
    have HF := Lib.hid hF
    have HP := Lib.hid hp
    have HUL := Lib.hid hUl
    have B6 := am h6
    have B8 := am h8
    have B11 := am h11
    have B12 := am h12
    have HV := am hRv
    have c11 := (blk_cell h11 0).trans rfl
    have c12 := (blk_cell h12 0).trans rfl
    have w64 : IntKind.i64.wrap (sm - 64) = sm - 64 := IntWalk.i64_in _ (by omega)
    have hle : (z : Int) ≤ (m : Int) := by omega
    have HMX := Lib.hid (And.intro w64 (And.intro hsm (And.intro hln hle)))
    clear hL2 hS2 hU2 hmk hF hp hUl h6 h8 h11 h12 hRv hat HAL hal hw w64 hsm hln hle hsu hso hsame
    by_cases hc : 0 < z ∧ sm < (z : Int)
    · obtain ⟨hc1, hc2⟩ := hc
      have HE : Aside0 (U2 = U ++ [⟨false, (at_ : Int), L.extract 0 z ++ old.extract z 64⟩]) := am (by have := HMK.out; rw [if_pos ⟨hc1, hc2⟩] at this; exact this)
      have hc3 : (0 : Int) < (z : Int) := by omega
      have hz64i : (z : Int) ≤ 64 := by omega
      obtain ⟨w64, hsm, hln, hle⟩ := HMX.out
      have s1 : (L.extract 0 z).size = z := by rw [ByteArray.size_extract, hlz]; omega
      have s2 : (old.extract z 64).size = 64 - z := by rw [ByteArray.size_extract, hps]; omega
      obtain ⟨P1, hP1⟩ : ∃ P1, L.extract 0 z = P1 := ⟨_, rfl⟩
      obtain ⟨P2, hP2⟩ : ∃ P2, old.extract z 64 = P2 := ⟨_, rfl⟩
      obtain ⟨bx, hbx⟩ : ∃ bx, P1 ++ P2 = bx := ⟨_, rfl⟩
      rw [hP1] at s1 HE
      rw [hP2] at s2 HE
      rw [hbx] at HE
      have hcat : ¬ 9223372036854775807 < P1.size + P2.size := by omega
      clear s1 s2 hsm hln w64
      gi_wp2_with fail
      have XO := am (below_drew1 (Below.refl W.heap.size W))
      have CB := am (below_step HF.out.2.2 XO.out)
      have CO := am (Kd.R_drew HV.out)
      have C6 := am (Go.Proofs.YtcfinlmocgbnbaaW.PrintWords.bkD B6.out)
      have C8 := am (Go.Proofs.YtcfinlmocgbnbaaW.PrintWords.bkD B8.out)
      have C11 := am (Go.Proofs.YtcfinlmocgbnbaaW.PrintWords.bkD B11.out)
      have C12 := am (Go.Proofs.YtcfinlmocgbnbaaW.PrintWords.bkD B12.out)
      have Cg1 := am (Go.Proofs.YtcfinlmocgbnbaaW.PrintWords.bkD HF.out.1)
      have Cg2 := am (Go.Proofs.YtcfinlmocgbnbaaW.PrintWords.bkD HF.out.2.1)
      refine XB.round_start (m := 13) (S := fun w' => w'.cell? ⟨w.heap.size + 1, 0, none⟩ = some (v) ∧ w'.cell? ⟨W2.heap.size + 1, 0, none⟩ = some (.string L)) (ds := [12]) #[false, false, false, false, false, false, false, false, false, false, false, false, false] (by kernel_rfl) rfl rfl (by kernel_rfl) (by exact fun ⟨_, _, h⟩ => h) ⟨(blk_cell C6.out 0).trans rfl, (blk_cell C11.out 0).trans rfl⟩ (fun hHeld => ?_); refine with_tabW vmv.tab12 vmv.bits12 (fun HT_ HW_ => ?_)
      generalize W.drew = W9 at XO CB CO C6 C8 C11 C12 Cg1 Cg2 hHeld ⊢
      refine tk_ 0 (some 54) HT_ HW_ rfl rfl (.inl ⟨by rfl, by rintro w' ⟨s0, s1⟩; go_simp; with_reducible rfl⟩) hHeld (by simp only [Act.put, sa_, s0_, s1_, i64_w, i32_w]; rfl) ?_
      refine pu_ 1 (some 55) HT_ rfl rfl (.inl ⟨by rfl, by intro w'; go_simp; with_reducible rfl⟩) (by simp only [Act.put, sa_, s0_, s1_, i64_w, i32_w]; rfl) ?_
      refine tk_ 2 (some 56) HT_ HW_ rfl rfl (.inl ⟨by rfl, by rintro w' ⟨s0, s1⟩; go_simp; with_reducible rfl⟩) hHeld (by simp only [Act.put, sa_, s0_, s1_, i64_w, i32_w]; rfl) ?_
      refine pu_ 3 (some 57) HT_ rfl rfl (.inl ⟨by rfl, by intro w'; go_simp; with_reducible rfl⟩) (by simp only [Act.put, sa_, s0_, s1_, i64_w, i32_w]; rfl) ?_
      refine pu_ 4 (some 58) HT_ rfl rfl (.inl ⟨by rfl, by intro w'; go_simp; with_reducible rfl⟩) (by simp only [Act.put, sa_, s0_, s1_, i64_w, i32_w]; rfl) ?_
      refine pu_ 5 (some 59) HT_ rfl rfl (.inl ⟨by rfl, by intro w'; go_simp; with_reducible rfl⟩) (by simp only [Act.put, sa_, s0_, s1_, i64_w, i32_w]; rfl) ?_
      refine pu_ 6 (some 60) HT_ rfl rfl (.inl ⟨by rfl, by intro w'; go_simp; with_reducible rfl⟩) (by simp only [Act.put, sa_, s0_, s1_, i64_w, i32_w]; rfl) ?_
      refine pu_ 7 (some 61) HT_ rfl rfl (.inl ⟨by rfl, by intro w'; go_simp; with_reducible rfl⟩) (by simp only [Act.put, sa_, s0_, s1_, i64_w, i32_w]; rfl) ?_
      refine pu_ 8 (some 62) HT_ rfl rfl (.inl ⟨by rfl, by intro w'; go_simp; with_reducible rfl⟩) (by simp only [Act.put, sa_, s0_, s1_, i64_w, i32_w]; rfl) ?_
      refine pu_ 9 (some 63) HT_ rfl rfl (.inl ⟨by rfl, by intro w'; go_simp; with_reducible rfl⟩) (by simp only [Act.put, sa_, s0_, s1_, i64_w, i32_w]; rfl) ?_
      refine on_ 10 (some 64) HT_ rfl rfl (fun K hK => ?_)
      refine value_ (w1 := ?_) (v := ?_) (by rfl) rfl ?_ ?_
      rotate_left 2
      · go_simp
        constructor
        rotate_left
        · rfl
        rfl
      refine hK.out _ _ ⟨(blk_cell (bkA C6.out _) 0).trans rfl, (blk_cell (bkA C11.out _) 0).trans rfl⟩ (fun hHeld => ?_)
      clear hK K
      refine norm_ (by show Act.put _ (some 64) _ = _; simp only [Act.put, sa_, s0_, s1_, i64_w, i32_w]; rfl) ?_
      refine on_ 11 (some 65) HT_ rfl rfl (fun K hK => ?_)
      refine Kd.R_append_step k24 (w0 := w) w.heap.size (by rfl) (.tmp 54) (.tmp 64) 28 24 (.agg #[(.bool false), (.int .i64 0), (.string ⟨#[]⟩)]) 32 rfl Try.underlying28 info24 rfl (by decide) (by omega) v U (⟨false, (at_ : Int), bx⟩ : S24) [.bool false, .int .i64 (at_ : Int), .string bx] (fun _ => True) (fun _ => False) rfl rfl ?aP (fun _ hk => hk.elim) ?aF ?aO ?aB ?aS ?aL ?_
      (case aP => exact k24_mkM _ _ _ (⟨false, (at_ : Int), bx⟩ : S24))
      (case aB => exact CB.out)
      (case aF => exact (fun _ _ => trivial))
      (case aO => exact CO.out)
      (case aS => exact CB.out.size)
      (case aL => have := HUL.out; omega)
      intro v1 w1 ho hb hg hat
      obtain ⟨Av, cv, ev1⟩ := Kd.R_slice ho
      generalize (U ++ [(⟨false, (at_ : Int), bx⟩ : S24)]).length = nl at ev1
      subst ev1
      have N6 := am (blk_grown C6.out hg (Kd.R_ne CO.out C6.out (by decide)))
      have N8 := am (blk_grown C8.out hg (Kd.R_ne CO.out C8.out (by decide)))
      have N11 := am (blk_grown C11.out hg (Kd.R_ne CO.out C11.out (by decide)))
      have N12 := am (blk_grown C12.out hg (Kd.R_ne CO.out C12.out (by decide)))
      have Ng1 := am (blk_grown Cg1.out hg (Kd.R_ne CO.out Cg1.out (by decide)))
      have Ng2 := am (blk_grown Cg2.out hg (Kd.R_ne CO.out Cg2.out (by decide)))
      have HKK := am ((keeps_below (B := W3.heap.size) XO.out).trans (keeps_grown (B := W3.heap.size) hg (fun r e => by obtain ⟨cells, hc⟩ := Kd.R_typed CO.out r e; exact ⟨_, _, _, hc⟩)))
      have NB := am hb; have NO := am ho; clear C6 C8 C11 C12 Cg1 Cg2 CB CO hb ho hg hat
      refine hK.out _ _ ⟨(blk_cell N6.out 0).trans rfl, (blk_cell N11.out 0).trans rfl⟩ (fun hHeld => ?_)
      clear hK K
      refine norm_ (by show Act.put _ (some 65) _ = _; simp only [Act.put, sa_, s0_, s1_, i64_w, i32_w]; rfl) ?_
      refine la_ 12 none HT_ rfl rfl (fun K hK => ?_)
      have hs1 := (blk_cell N6.out 0).trans rfl; have hf1 := blk_frozen N6.out 0
      refine skip_ (by rfl) rfl (by go_simp; rfl) ?_
      refine hK.out _ _ ?_
      clear hK K hs1 hf1
      refine done_ (done_of HT_.out (by kernel_rfl)) ?_
      have D6 := am (put10_ N6.out (.slice Av nl cv))
      have D8 := am (blk_far N8.out (p := ⟨w.heap.size + 1, 0, none⟩) (show W2.heap.size ≠ w.heap.size + 1 by omega) (.slice Av nl cv))
      have D11 := am (blk_far N11.out (p := ⟨w.heap.size + 1, 0, none⟩) (show W2.heap.size + 1 ≠ w.heap.size + 1 by omega) (.slice Av nl cv))
      have D12 := am (blk_far N12.out (p := ⟨w.heap.size + 1, 0, none⟩) (show W2.heap.size + 1 + 1 ≠ w.heap.size + 1 by omega) (.slice Av nl cv))
      have Dg1 := am (blk_far Ng1.out (p := ⟨w.heap.size + 1, 0, none⟩) (show g1 ≠ w.heap.size + 1 by exact ng1) (.slice Av nl cv))
      have Dg2 := am (blk_far Ng2.out (p := ⟨w.heap.size + 1, 0, none⟩) (show g2 ≠ w.heap.size + 1 by exact ng2) (.slice Av nl cv))
      have DO := am (R_put NO.out N6.out (by decide) (.slice Av nl cv))
      have DB := am (below_set NB.out (show w.heap.size ≤ w.heap.size + 1 by omega) (j := 0) (v := .slice Av nl cv))
      have HKY := am (keeps_set (B := W3.heap.size) HKK.out ⟨w.heap.size + 1, 0, none⟩ (.slice Av nl cv))
      clear N6 N8 N11 N12 Ng1 Ng2 NO NB HKK HT_ HW_ hHeld XO B6 B8 B11 B12 HV
      generalize w1.setCell ⟨w.heap.size + 1, 0, none⟩ (.slice Av nl cv) = Y at *
      have B6 := D6; have B8 := D8; have B11 := D11; have B12 := D12; have HV := DO
      clear D6 D8 D11 D12 DO
      have HKK := HKY; clear HKY
      have HVK : Aside0 (VK w g1 g2 #[.slice A0 su.length c0, .slice A1 0 c1, .int .i64 (sq + 1), .int .i64 (half : Int), .int .i64 (n : Int)] #[.int .i64 (half : Int)] W Y) := am (fun _ => ⟨Dg1.out, Dg2.out, DB.out⟩)
      have c11 := (blk_cell B11.out 0).trans rfl
      have c12 := (blk_cell B12.out 0).trans rfl
      gi_wp2_with fail
      have C11 := am (Go.Proofs.YtcfinlmocgbnbaaW.PrintWords.bkD B11.out)
      have C12 := am (Go.Proofs.YtcfinlmocgbnbaaW.PrintWords.bkD B12.out)
      obtain ⟨w64, hsm, hln, hle⟩ := HMX.out
      have XO := am (below_drew1 (Below.refl Y.heap.size Y))
      refine XB.round_start (m := 8) (S := fun w' => w'.cell? ⟨W2.heap.size + 1 + 1, 0, none⟩ = some (.int .i64 sm)) (ds := [7]) #[false, false, false, false, false, false, false, false] (by kernel_rfl) rfl rfl (by kernel_rfl) (by exact fun ⟨_, _, h⟩ => h) ((blk_cell C12.out 0).trans rfl) (fun hHeld => ?_); refine with_tabW vmv.tab13 vmv.bits13 (fun HT_ HW_ => ?_)
      generalize Y.drew = W9 at XO C11 C12 hHeld ⊢
      refine pu_ 1 (some 67) HT_ rfl rfl (.inl ⟨by rfl, by intro w'; go_simp; with_reducible rfl⟩) (by simp only [Act.put, sa_, s0_, s1_, i64_w, i32_w]; rfl) ?_
      refine tk_ 3 (some 69) HT_ HW_ rfl rfl (.inl ⟨by rfl, by rintro w' s0; go_simp; with_reducible rfl⟩) hHeld (by simp only [Act.put, sa_, s0_, s1_, i64_w, i32_w]; rfl) ?_
      refine pu_ 4 (some 70) HT_ rfl rfl (.inl ⟨by rfl, by intro w'; go_simp; with_reducible rfl⟩) (by simp only [Act.put, sa_, s0_, s1_, i64_w, i32_w]; rfl) ?_
      refine pu_ 5 (some 71) HT_ rfl rfl (.inl ⟨by rfl, by intro w'; go_simp; with_reducible rfl⟩) (by simp only [Act.put, sa_, s0_, s1_, i64_w, i32_w]; rfl) ?_
      refine on_ 0 (some 66) HT_ rfl rfl (fun K hK => ?_)
      have hs1 := (blk_cell C11.out 0).trans rfl
      refine value_ (w1 := ?_) (v := ?_) (by rfl) rfl ?_ ?_
      rotate_left 2
      · go_simp
        constructor
        rotate_left
        · rfl
        rfl
      clear hs1
      refine hK.out _ _ hHeld (fun hHeld => ?_)
      clear hK K
      refine norm_ (by show Act.put _ (some 66) _ = _; simp only [Act.put, sa_, s0_, s1_, i64_w, i32_w]; rfl) ?_
      refine pu_ 2 (some 68) HT_ rfl rfl (.inl ⟨by rfl, by intro w'; go_simp; with_reducible rfl⟩) (by simp only [Act.put, sa_, s0_, s1_, i64_w, i32_w]; rfl) ?_
      refine on_ 6 none HT_ rfl rfl (fun K hK => ?_)
      have hs1 := (blk_cell C11.out 0).trans rfl; have hf1 := blk_frozen C11.out 0
      refine skip_ (by rfl) rfl (by go_simp; rfl) ?_
      clear hs1 hf1
      have C11b := am (put10_ C11.out (.string L2)); have C12b := am (blk_far C12.out (p := ⟨W2.heap.size + 1, 0, none⟩) (show W2.heap.size + 1 + 1 ≠ W2.heap.size + 1 by omega) (.string L2)); clear C12 C11; have C12 := C12b; have C11 := C11b; clear C12b C11b
      refine hK.out _ _ ((blk_cell C12.out 0).trans rfl) (fun hHeld => ?_)
      clear hK K
      refine la_ 7 none HT_ rfl rfl (fun K hK => ?_)
      have hs1 := (blk_cell C12.out 0).trans rfl; have hf1 := blk_frozen C12.out 0
      refine skip_ (by rfl) rfl (by go_simp; rfl) ?_
      refine hK.out _ _ ?_
      clear hK K hs1 hf1
      refine done_ (done_of HT_.out (by kernel_rfl)) ?_
      gi_wp2
      exact round_end (by omega) (by omega) (by omega) (by omega) (by omega) mg1 kg1 mg2 kg2 (by omega) (by omega) HKK.out HVK.out HF.out B8.out B11.out B12.out B6.out (by rw [HE.out]; exact HV.out) XO.out HL2.out HS2.out HU2.out
    · have HE : Aside0 (U2 = U) := am (by have := HMK.out; rw [if_neg hc, List.append_nil] at this; exact this)
      by_cases hz0 : 0 < z
      · have hc2 : ¬ sm < (z : Int) := fun h => hc ⟨hz0, h⟩
        clear hc
        gi_wp2_with fail
        have C11 := am (Go.Proofs.YtcfinlmocgbnbaaW.PrintWords.bkD B11.out)
        have C12 := am (Go.Proofs.YtcfinlmocgbnbaaW.PrintWords.bkD B12.out)
        obtain ⟨w64, hsm, hln, hle⟩ := HMX.out
        have XO := am (below_drew1 (Below.refl W.heap.size W))
        refine XB.round_start (m := 8) (S := fun w' => w'.cell? ⟨W2.heap.size + 1 + 1, 0, none⟩ = some (.int .i64 sm)) (ds := [7]) #[false, false, false, false, false, false, false, false] (by kernel_rfl) rfl rfl (by kernel_rfl) (by exact fun ⟨_, _, h⟩ => h) ((blk_cell C12.out 0).trans rfl) (fun hHeld => ?_); refine with_tabW vmv.tab13 vmv.bits13 (fun HT_ HW_ => ?_)
        generalize W.drew = W9 at XO C11 C12 hHeld ⊢
        refine pu_ 1 (some 67) HT_ rfl rfl (.inl ⟨by rfl, by intro w'; go_simp; with_reducible rfl⟩) (by simp only [Act.put, sa_, s0_, s1_, i64_w, i32_w]; rfl) ?_
        refine tk_ 3 (some 69) HT_ HW_ rfl rfl (.inl ⟨by rfl, by rintro w' s0; go_simp; with_reducible rfl⟩) hHeld (by simp only [Act.put, sa_, s0_, s1_, i64_w, i32_w]; rfl) ?_
        refine pu_ 4 (some 70) HT_ rfl rfl (.inl ⟨by rfl, by intro w'; go_simp; with_reducible rfl⟩) (by simp only [Act.put, sa_, s0_, s1_, i64_w, i32_w]; rfl) ?_
        refine pu_ 5 (some 71) HT_ rfl rfl (.inl ⟨by rfl, by intro w'; go_simp; with_reducible rfl⟩) (by simp only [Act.put, sa_, s0_, s1_, i64_w, i32_w]; rfl) ?_
        refine on_ 0 (some 66) HT_ rfl rfl (fun K hK => ?_)
        have hs1 := (blk_cell C11.out 0).trans rfl
        refine value_ (w1 := ?_) (v := ?_) (by rfl) rfl ?_ ?_
        rotate_left 2
        · go_simp
          constructor
          rotate_left
          · rfl
          rfl
        clear hs1
        refine hK.out _ _ hHeld (fun hHeld => ?_)
        clear hK K
        refine norm_ (by show Act.put _ (some 66) _ = _; simp only [Act.put, sa_, s0_, s1_, i64_w, i32_w]; rfl) ?_
        refine pu_ 2 (some 68) HT_ rfl rfl (.inl ⟨by rfl, by intro w'; go_simp; with_reducible rfl⟩) (by simp only [Act.put, sa_, s0_, s1_, i64_w, i32_w]; rfl) ?_
        refine on_ 6 none HT_ rfl rfl (fun K hK => ?_)
        have hs1 := (blk_cell C11.out 0).trans rfl; have hf1 := blk_frozen C11.out 0
        refine skip_ (by rfl) rfl (by go_simp; rfl) ?_
        clear hs1 hf1
        have C11b := am (put10_ C11.out (.string L2)); have C12b := am (blk_far C12.out (p := ⟨W2.heap.size + 1, 0, none⟩) (show W2.heap.size + 1 + 1 ≠ W2.heap.size + 1 by omega) (.string L2)); clear C12 C11; have C12 := C12b; have C11 := C11b; clear C12b C11b
        refine hK.out _ _ ((blk_cell C12.out 0).trans rfl) (fun hHeld => ?_)
        clear hK K
        refine la_ 7 none HT_ rfl rfl (fun K hK => ?_)
        have hs1 := (blk_cell C12.out 0).trans rfl; have hf1 := blk_frozen C12.out 0
        refine skip_ (by rfl) rfl (by go_simp; rfl) ?_
        refine hK.out _ _ ?_
        clear hK K hs1 hf1
        refine done_ (done_of HT_.out (by kernel_rfl)) ?_
        gi_wp2
        exact round_end (by omega) (by omega) (by omega) (by omega) (by omega) mg1 kg1 mg2 kg2 (by omega) (by omega) (keeps_below (Below.refl _ _)) (fun q => q) HF.out B8.out B11.out B12.out B6.out (by rw [HE.out]; exact HV.out) XO.out HL2.out HS2.out HU2.out
      · have hc2 : ¬ (0 : Int) < (z : Int) := by omega
        clear hc
        gi_wp2_with fail
        have C11 := am (Go.Proofs.YtcfinlmocgbnbaaW.PrintWords.bkD B11.out)
        have C12 := am (Go.Proofs.YtcfinlmocgbnbaaW.PrintWords.bkD B12.out)
        obtain ⟨w64, hsm, hln, hle⟩ := HMX.out
        have XO := am (below_drew1 (Below.refl W.heap.size W))
        refine XB.round_start (m := 8) (S := fun w' => w'.cell? ⟨W2.heap.size + 1 + 1, 0, none⟩ = some (.int .i64 sm)) (ds := [7]) #[false, false, false, false, false, false, false, false] (by kernel_rfl) rfl rfl (by kernel_rfl) (by exact fun ⟨_, _, h⟩ => h) ((blk_cell C12.out 0).trans rfl) (fun hHeld => ?_); refine with_tabW vmv.tab13 vmv.bits13 (fun HT_ HW_ => ?_)
        generalize W.drew = W9 at XO C11 C12 hHeld ⊢
        refine pu_ 1 (some 67) HT_ rfl rfl (.inl ⟨by rfl, by intro w'; go_simp; with_reducible rfl⟩) (by simp only [Act.put, sa_, s0_, s1_, i64_w, i32_w]; rfl) ?_
        refine tk_ 3 (some 69) HT_ HW_ rfl rfl (.inl ⟨by rfl, by rintro w' s0; go_simp; with_reducible rfl⟩) hHeld (by simp only [Act.put, sa_, s0_, s1_, i64_w, i32_w]; rfl) ?_
        refine pu_ 4 (some 70) HT_ rfl rfl (.inl ⟨by rfl, by intro w'; go_simp; with_reducible rfl⟩) (by simp only [Act.put, sa_, s0_, s1_, i64_w, i32_w]; rfl) ?_
        refine pu_ 5 (some 71) HT_ rfl rfl (.inl ⟨by rfl, by intro w'; go_simp; with_reducible rfl⟩) (by simp only [Act.put, sa_, s0_, s1_, i64_w, i32_w]; rfl) ?_
        refine on_ 0 (some 66) HT_ rfl rfl (fun K hK => ?_)
        have hs1 := (blk_cell C11.out 0).trans rfl
        refine value_ (w1 := ?_) (v := ?_) (by rfl) rfl ?_ ?_
        rotate_left 2
        · go_simp
          constructor
          rotate_left
          · rfl
          rfl
        clear hs1
        refine hK.out _ _ hHeld (fun hHeld => ?_)
        clear hK K
        refine norm_ (by show Act.put _ (some 66) _ = _; simp only [Act.put, sa_, s0_, s1_, i64_w, i32_w]; rfl) ?_
        refine pu_ 2 (some 68) HT_ rfl rfl (.inl ⟨by rfl, by intro w'; go_simp; with_reducible rfl⟩) (by simp only [Act.put, sa_, s0_, s1_, i64_w, i32_w]; rfl) ?_
        refine on_ 6 none HT_ rfl rfl (fun K hK => ?_)
        have hs1 := (blk_cell C11.out 0).trans rfl; have hf1 := blk_frozen C11.out 0
        refine skip_ (by rfl) rfl (by go_simp; rfl) ?_
        clear hs1 hf1
        have C11b := am (put10_ C11.out (.string L2)); have C12b := am (blk_far C12.out (p := ⟨W2.heap.size + 1, 0, none⟩) (show W2.heap.size + 1 + 1 ≠ W2.heap.size + 1 by omega) (.string L2)); clear C12 C11; have C12 := C12b; have C11 := C11b; clear C12b C11b
        refine hK.out _ _ ((blk_cell C12.out 0).trans rfl) (fun hHeld => ?_)
        clear hK K
        refine la_ 7 none HT_ rfl rfl (fun K hK => ?_)
        have hs1 := (blk_cell C12.out 0).trans rfl; have hf1 := blk_frozen C12.out 0
        refine skip_ (by rfl) rfl (by go_simp; rfl) ?_
        refine hK.out _ _ ?_
        clear hK K hs1 hf1
        refine done_ (done_of HT_.out (by kernel_rfl)) ?_
        gi_wp2
        exact round_end (by omega) (by omega) (by omega) (by omega) (by omega) mg1 kg1 mg2 kg2 (by omega) (by omega) (keeps_below (Below.refl _ _)) (fun q => q) HF.out B8.out B11.out B12.out B6.out (by rw [HE.out]; exact HV.out) XO.out HL2.out HS2.out HU2.out
set_option maxHeartbeats 4000000 in
theorem vmoves_long {su : List ByteArray} {A0 A1 : Option Addr} {c0 c1 n : Nat} {sq hf ln sq2 half : Int} {s all : ByteArray} {ins : Bool} (w : World)
    (hR : ∀ W, Below w.heap.size w W → Calls Try.prog 36 #[.agg #[.slice A0 su.length c0, .slice A1 0 c1, .int .i64 sq, .int .i64 hf, .int .i64 ln]] W fun e w' => e = .returned (.bool true) ∧ Below W.heap.size W w')
    (hN : ∀ W, Below w.heap.size w W → Calls Try.prog 59 #[.agg #[.slice A0 su.length c0, .slice A1 0 c1, .int .i64 sq, .int .i64 hf, .int .i64 ln], .string s, .bool ins] W fun e w' => e = .returned (.tuple #[.agg #[.slice A0 su.length c0, .slice A1 0 c1, .int .i64 sq2, .int .i64 half, .int .i64 (n : Int)], .string all, .bool false]) ∧ Below W.heap.size W w') :
    Calls Try.prog 37 #[.agg #[.slice A0 su.length c0, .slice A1 0 c1, .int .i64 sq, .int .i64 hf, .int .i64 ln], .string s, .bool ins] w fun e w' => ∃ v, e = .returned (.tuple #[v, .int .i64 2]) ∧ Kd.R k24 24 w' w.heap.size (fun _ => True) v ([] : List S24) ∧ Below w.heap.size w w' := by
  have HR := Lib.hid hR
  have HN := Lib.hid hN
  clear hR hN
  go_enter Try.func37, Try.ntmps37
  go_wp2_with fail
  generalize hW0 : World.alloc (World.alloc w _) _ = W0
  have F3 : W0.heap[w.heap.size]? = some (.cells #[.slice A0 su.length c0, .slice A1 0 c1, .int .i64 sq, .int .i64 hf, .int .i64 ln] 56 (0, 0)) := by rw [← hW0]; exact heap_alloc2_old w _ _
  have F6 : W0.heap[w.heap.size + 1]? = some (.cells #[.slice none 0 0] 28 (0, 0)) := by rw [← hW0]; exact heap_alloc2_new w _ _
  have FB : Below w.heap.size w W0 := by rw [← hW0]; exact below_alloc (below_alloc (Below.refl _ _) _) _
  clear hW0
  refine (HR.out W0 FB).mono ?_
  rintro e W1 ⟨rfl, hb⟩
  have G3 := Lib.hid (blk_same F3 hb)
  have G6 := Lib.hid (blk_same F6 hb)
  have GB := Lib.hid (below_step FB hb)
  have c_0 := (blk_cell G3.out 0).trans rfl
  have c_1 := (blk_cell G3.out 1).trans rfl
  have c_2 := (blk_cell G3.out 2).trans rfl
  have c_3 := (blk_cell G3.out 3).trans rfl
  have c_4 := (blk_cell G3.out 4).trans rfl
  clear hb F3 F6 FB HR W0
  go_wp2_with fail
  refine (HN.out W1 GB.out).mono ?_
  rintro e W2 ⟨rfl, hb⟩
  have G6b := Lib.hid (blk_same G6.out hb)
  have GBb := Lib.hid (below_step GB.out hb)
  have c_6 := (blk_cell G6b.out 0).trans rfl
  have f_6 := blk_frozen G6b.out 0
  have hlt6 : w.heap.size + 1 < W2.heap.size := Go.Proofs.YtcfinlmocgbnbaaW.PrintWords.blk_lt G6b.out
  clear hb c_0 c_1 c_2 c_3 c_4 G3 G6 GB W1 HN
  go_wp2
  have e6 := bkA (put10_ G6b.out (.slice none 0 0)) (.cells #[.slice A0 su.length c0, .slice A1 0 c1, .int .i64 sq2, .int .i64 half, .int .i64 (n : Int)] 89)
  exact bodyPost_ret (XB.resultsX_list (rs := [.cell 6 28, .tmp 7]) rfl (by simp) (.one (w.heap.size + 1) 28 (.slice none 0 0) (0, 0) _ rfl e6 Try.underlying28 rfl (.tmp .nil))) rfl ⟨_, rfl, Kd.R_nil k24 24 _ w.heap.size (fun _ => True), below_alloc (below_set GBb.out (by omega)) _⟩
end Go.Proofs.Ytcfinlmocgbnbaa.Pr
end
section
namespace Go.Proofs.Ytcfinlmocgbnbaa.Pr
open Go.Proofs.Ytcfinlmocgbnbaa.Sq Go.RowKit Go.Shelf Go.Proofs.Ytcfinlmocgbnbaa.XB Go.Proofs.YtcfinlmocgbnbaaW.PrintWords Go.Proofs.YtcfinlmocgbnbaaW.PrintLast Go.Proofs.YtcfinlmocgbnbaaW.PrintMore
attribute [local go_sem] Oper.semAt_some
set_option linter.unusedVariables false
set_option linter.unusedSimpArgs false
set_option maxRecDepth 100000
theorem boxes2 {w : World} (o0 o1 : Obj) : ((w.alloc o0).alloc o1).heap[w.heap.size]? = some o0 ∧ ((w.alloc o0).alloc o1).heap[w.heap.size + 1]? = some o1 := ⟨heap_alloc2_old w _ _, heap_alloc2_new w _ _⟩
set_option maxHeartbeats 8000000 in
theorem vkeep_calls {su r1 : List ByteArray} {ml r2 : List S24} {A0 A1 : Option Addr} {c0 c1 : Nat} {sq hf ln sq2 hf2 ln2 er : Int} {s all : ByteArray} {ins : Bool} (w : World)
    (hsu : Kd.C Kd.string w A0 su.length su) (hc0 : su.length ≤ c0) (hso : Kd.C k24 w A1 0 ([] : List S24))
    (hM : ∀ W, Below w.heap.size w W → Calls Try.prog 37 #[.agg #[.slice A0 su.length c0, .slice A1 0 c1, .int .i64 sq, .int .i64 hf, .int .i64 ln], .string s, .bool ins] W fun e w' => ∃ v, e = .returned (.tuple #[v, .int .i64 0]) ∧ Kd.R k24 24 w' W.heap.size (fun _ => True) v ml ∧ Below W.heap.size W w')
    (hN : ∀ W, Below w.heap.size w W → Calls Try.prog 59 #[.agg #[.slice A0 su.length c0, .slice A1 0 c1, .int .i64 sq, .int .i64 hf, .int .i64 ln], .string s, .bool ins] W fun e w' => e = .returned (.tuple #[.agg #[.slice A0 su.length c0, .slice A1 0 c1, .int .i64 sq2, .int .i64 hf2, .int .i64 ln2], .string all, .bool true]) ∧ Below W.heap.size W w')
    (hD : disk_Do.f su [] ml = some (r1, r2, er)) :
    Calls Try.prog 33 #[.agg #[.slice A0 su.length c0, .slice A1 0 c1, .int .i64 sq, .int .i64 hf, .int .i64 ln], .string s, .bool ins] w fun e w' => ∃ v0 v1, e = .returned (.tuple #[.agg #[v0, v1, .int .i64 sq2, .int .i64 hf2, .int .i64 ln2], .int .i64 0]) ∧ Kd.R Kd.string 9 w' w.heap.size (fun _ => True) v0 r1 ∧ Kd.R k24 24 w' w.heap.size (fun _ => True) v1 r2 ∧ Below w.heap.size w w' := by
  have HM := Lib.hid hM
  have HN := Lib.hid hN
  have HD := Lib.hid (show ∀ W (A : Option Addr) (c : Nat), Below w.heap.size w W → Kd.C k24 W A ml.length ml → ml.length ≤ c → Calls Try.prog 25 #[.agg #[.slice A0 su.length c0, .slice A1 0 c1], .slice A ml.length c] W fun e w' => ∃ v0_ v1_ : Value, e = .returned (.tuple #[.agg #[v0_, v1_], .int .i64 er]) ∧ Kd.R Kd.string 9 w' W.heap.size (fun _ => True) v0_ r1 ∧ Kd.R k24 24 w' W.heap.size (fun _ => True) v1_ r2 ∧ Below W.heap.size W w' from fun W A c h hm hc => disk_Do.calls A0 c0 su A1 c1 [] A c ml r1 r2 er W (Kd.C_below hsu h) hc0 (Kd.C_below hso h) (Nat.zero_le _) hm hc hD)
  clear hM hN hD hsu hso
  go_enter Try.func33, Try.ntmps33
  go_wp2_with fail
  generalize hW0 : World.alloc (World.alloc w _) _ = W0
  have F3 : W0.heap[w.heap.size]? = some (.cells #[.slice A0 su.length c0, .slice A1 0 c1, .int .i64 sq, .int .i64 hf, .int .i64 ln] 56 (0, 0)) := by rw [← hW0]; exact (boxes2 _ _).1
  have F6 : W0.heap[w.heap.size + 1]? = some (.cells #[.slice none 0 0, .slice none 0 0, .int .i64 0, .int .i64 0, .int .i64 0] 56 (0, 0)) := by rw [← hW0]; exact (boxes2 _ _).2
  have FB : Below w.heap.size w W0 := by rw [← hW0]; exact below_alloc (below_alloc (Below.refl _ _) _) _
  clear hW0
  refine (HM.out W0 FB).mono ?_
  rintro e W1 ⟨v, rfl, hv, hb⟩
  obtain ⟨Am, cm, em⟩ := Kd.R_slice hv
  subst em
  have G3 := Lib.hid (blk_same F3 hb)
  have G6 := Lib.hid (blk_same F6 hb)
  have GB := Lib.hid (below_step FB hb)
  have GM := Lib.hid (Kd.R_reads' hv).2.2
  have hcm := (Kd.R_reads' hv).2.1
  have c_0 := (blk_cell G3.out 0).trans rfl
  have c_1 := (blk_cell G3.out 1).trans rfl
  have c_2 := (blk_cell G3.out 2).trans rfl
  have c_3 := (blk_cell G3.out 3).trans rfl
  have c_4 := (blk_cell G3.out 4).trans rfl
  clear hb hv F3 F6 FB HM W0
  go_wp2_with fail
  refine (HN.out W1 GB.out).mono ?_
  rintro e W2 ⟨rfl, hb⟩
  have I3 := Lib.hid (blk_same G3.out hb)
  have I6 := Lib.hid (blk_same G6.out hb)
  have IB := Lib.hid (below_step GB.out hb)
  have IM := Lib.hid (Kd.C_below GM.out hb)
  clear hb c_0 c_1 c_2 c_3 c_4 G3 G6 GB GM W1 HN
  have c_0 := (blk_cell I3.out 0).trans rfl
  have c_1 := (blk_cell I3.out 1).trans rfl
  have hlt : w.heap.size + 1 < W2.heap.size := Go.Proofs.YtcfinlmocgbnbaaW.PrintWords.blk_lt I6.out
  have hlt0 : w.heap.size < W2.heap.size := by omega
  go_wp2_with fail
  generalize hX : World.alloc W2 _ = X
  have X6 := Lib.hid (show X.heap[w.heap.size + 1]? = some (.cells #[.slice none 0 0, .slice none 0 0, .int .i64 0, .int .i64 0, .int .i64 0] 56 (0, 0)) by rw [← hX]; exact bkA I6.out _)
  have X10 := Lib.hid (show X.heap[W2.heap.size]? = some (.cells #[.slice A0 su.length c0, .slice A1 0 c1, .int .i64 sq2, .int .i64 hf2, .int .i64 ln2] 89 (0, 0)) by rw [← hX]; exact heap_alloc_new W2 _)
  have XW := Lib.hid (show Below w.heap.size w X by rw [← hX]; exact below_alloc IB.out _)
  have XM := Lib.hid (show Kd.C k24 X Am ml.length ml by rw [← hX]; exact Kd.C_below IM.out (below_alloc (Below.refl _ _) _))
  have X3 := Lib.hid (show X.heap[w.heap.size]? = some (.cells #[.slice A0 su.length c0, .slice A1 0 c1, .int .i64 sq, .int .i64 hf, .int .i64 ln] 56 (0, 0)) by rw [← hX]; exact bkA I3.out _)
  clear hX c_0 c_1 I3 I6 IB IM
  refine (HD.out X Am cm XW.out XM.out hcm).mono ?_
  rintro e W3 ⟨v0, v1, rfl, h0, h1, hb⟩
  have hs : X.heap.size ≤ W3.heap.size := hb.size
  obtain ⟨Ap, cp, ep⟩ := Kd.R_slice h0
  subst ep
  obtain ⟨Aq, cq, eq⟩ := Kd.R_slice h1
  subst eq
  have R0 := am (Kd.R_lower h0 XW.out.size)
  have R1 := am (Kd.R_lower h1 XW.out.size)
  have Y6 := am (blk_same X6.out hb)
  have Y10 := am (blk_same X10.out hb)
  have YB := am (below_step XW.out hb)
  clear X3 h0 h1 hb X6 X10 XW XM HD hs
  have c_0 := (blk_cell Y10.out 0).trans rfl
  have c_1 := (blk_cell Y10.out 1).trans rfl
  have c_2 := (blk_cell Y10.out 2).trans rfl
  have c_3 := (blk_cell Y10.out 3).trans rfl
  have c_4 := (blk_cell Y10.out 4).trans rfl
  have f_0 := blk_frozen Y10.out 0
  have f_1 := blk_frozen Y10.out 1
  have e_0 := (blk_cell Y6.out 0).trans rfl
  have e_1 := (blk_cell Y6.out 1).trans rfl
  have e_2 := (blk_cell Y6.out 2).trans rfl
  have e_3 := (blk_cell Y6.out 3).trans rfl
  have e_4 := (blk_cell Y6.out 4).trans rfl
  have g_0 := blk_frozen Y6.out 0
  have g_1 := blk_frozen Y6.out 1
  have g_2 := blk_frozen Y6.out 2
  have g_3 := blk_frozen Y6.out 3
  have g_4 := blk_frozen Y6.out 4
  have n1 : W2.heap.size ≠ w.heap.size + 1 := by omega
  have n2 : w.heap.size + 1 ≠ W2.heap.size := by omega
  generalize r1.length = l1 at *
  generalize r2.length = l2 at *
  go_wp2
  have Z6 := am (blk_far (p := ⟨W2.heap.size, 1, none⟩) (blk_far (p := ⟨W2.heap.size, 0, none⟩) Y6.out n2 (.slice Ap l1 cp)) n2 (.slice Aq l2 cq))
  have Q0 := am (rs2 (v0 := .slice Ap l1 cp) (v1 := .slice Aq l2 cq) R0 Y10 (by decide))
  have Q1 := am (rs2 (v0 := .slice Ap l1 cp) (v1 := .slice Aq l2 cq) R1 Y10 (by decide))
  have QB := below_set (below_set YB.out (show w.heap.size ≤ W2.heap.size by omega) (j := 0) (v := .slice Ap l1 cp)) (show w.heap.size ≤ W2.heap.size by omega) (j := 1) (v := .slice Aq l2 cq)
  have e6 := bp5 (a' := .slice Ap l1 cp) (b' := .slice Aq l2 cq) (c' := .int .i64 sq2) (d' := .int .i64 hf2) (e' := .int .i64 ln2) Z6.out
  exact bodyPost_ret (XB.resultsX_list (rs := [.cell 6 56, .tmp 7]) rfl (by simp) (.cell (w.heap.size + 1) 56 #[.slice Ap l1 cp, .slice Aq l2 cq, .int .i64 sq2, .int .i64 hf2, .int .i64 ln2] (0, 0) _ rfl e6 Try.underlying56 rfl (by kernel_rfl) (.tmp .nil))) rfl
    ⟨_, _, rfl, rs5 Q0 Z6 (by decide), rs5 Q1 Z6 (by decide), below_set (below_set (below_set (below_set (below_set QB (by omega)) (by omega)) (by omega)) (by omega)) (by omega)⟩
set_option maxHeartbeats 8000000 in
theorem vkeep_err {su : List ByteArray} {A0 A1 : Option Addr} {c0 c1 : Nat} {sq hf ln er : Int} {s : ByteArray} {ins : Bool} (w : World)
    (hsu : Kd.C Kd.string w A0 su.length su) (hc0 : su.length ≤ c0) (hso : Kd.C k24 w A1 0 ([] : List S24)) (her : (er != 0) = true) (hlen : su.length < 8796093022208)
    (hM : ∀ W, Below w.heap.size w W → Calls Try.prog 37 #[.agg #[.slice A0 su.length c0, .slice A1 0 c1, .int .i64 sq, .int .i64 hf, .int .i64 ln], .string s, .bool ins] W fun e w' => ∃ v, e = .returned (.tuple #[v, .int .i64 er]) ∧ Kd.R k24 24 w' W.heap.size (fun _ => True) v ([] : List S24) ∧ Below W.heap.size W w') :
    Calls Try.prog 33 #[.agg #[.slice A0 su.length c0, .slice A1 0 c1, .int .i64 sq, .int .i64 hf, .int .i64 ln], .string s, .bool ins] w fun e w' => ∃ v0 v1, e = .returned (.tuple #[.agg #[v0, v1, .int .i64 sq, .int .i64 hf, .int .i64 ln], .int .i64 er]) ∧ Kd.R Kd.string 9 w' w.heap.size (fun _ => True) v0 su ∧ Kd.R k24 24 w' w.heap.size (fun _ => True) v1 ([] : List S24) ∧ Below w.heap.size w w' := by
  have HM := Lib.hid hM
  have HD := Lib.hid (show ∀ W, Below w.heap.size w W → Calls Try.prog 55 #[.agg #[.slice A0 su.length c0, .slice A1 0 c1]] W fun e w' => ∃ v0_ v1_ : Value, e = .returned (.agg #[v0_, v1_]) ∧ Kd.R Kd.string 9 w' W.heap.size (fun _ => True) v0_ su ∧ Kd.R k24 24 w' W.heap.size (fun _ => True) v1_ ([] : List S24) ∧ Below W.heap.size W w' from fun W h => vault_own.calls A0 c0 su A1 c1 [] su [] W (Kd.C_below hsu h) hc0 (Kd.C_below hso h) (Nat.zero_le _) (own_f ⟨hlen, by simp⟩))
  clear hM hsu hso
  go_enter Try.func33, Try.ntmps33
  go_wp2_with fail
  generalize hW0 : World.alloc (World.alloc w _) _ = W0
  have F3 : W0.heap[w.heap.size]? = some (.cells #[.slice A0 su.length c0, .slice A1 0 c1, .int .i64 sq, .int .i64 hf, .int .i64 ln] 56 (0, 0)) := by rw [← hW0]; exact (boxes2 _ _).1
  have F6 : W0.heap[w.heap.size + 1]? = some (.cells #[.slice none 0 0, .slice none 0 0, .int .i64 0, .int .i64 0, .int .i64 0] 56 (0, 0)) := by rw [← hW0]; exact (boxes2 _ _).2
  have FB : Below w.heap.size w W0 := by rw [← hW0]; exact below_alloc (below_alloc (Below.refl _ _) _) _
  clear hW0
  refine (HM.out W0 FB).mono ?_
  rintro e W1 ⟨v, rfl, hv, hb⟩
  obtain ⟨Am, cm, em⟩ := Kd.R_slice hv
  subst em
  have G3 := Lib.hid (blk_same F3 hb)
  have G6 := Lib.hid (blk_same F6 hb)
  have GB := Lib.hid (below_step FB hb)
  have c_0 := (blk_cell G3.out 0).trans rfl
  have c_1 := (blk_cell G3.out 1).trans rfl
  clear hb hv F3 F6 FB HM W0
  go_wp2_with fail
  refine (HD.out W1 GB.out).mono ?_
  rintro e W3 ⟨v0, v1, rfl, h0, h1, hb⟩
  obtain ⟨Ap, cp, ep⟩ := Kd.R_slice h0
  subst ep
  obtain ⟨Aq, cq, eq⟩ := Kd.R_slice h1
  subst eq
  have R0 := am (Kd.R_lower h0 GB.out.size)
  have R1 := am (Kd.R_lower h1 GB.out.size)
  have Y3 := am (blk_same G3.out hb)
  have Y6 := am (blk_same G6.out hb)
  have YB := am (below_step GB.out hb)
  clear h0 h1 hb c_0 c_1 G3 G6 GB HD
  have c_0 := (blk_cell Y3.out 0).trans rfl
  have c_1 := (blk_cell Y3.out 1).trans rfl
  have c_2 := (blk_cell Y3.out 2).trans rfl
  have c_3 := (blk_cell Y3.out 3).trans rfl
  have c_4 := (blk_cell Y3.out 4).trans rfl
  have f_0 := blk_frozen Y3.out 0
  have f_1 := blk_frozen Y3.out 1
  have e_0 := (blk_cell Y6.out 0).trans rfl
  have e_1 := (blk_cell Y6.out 1).trans rfl
  have e_2 := (blk_cell Y6.out 2).trans rfl
  have e_3 := (blk_cell Y6.out 3).trans rfl
  have e_4 := (blk_cell Y6.out 4).trans rfl
  have g_0 := blk_frozen Y6.out 0
  have g_1 := blk_frozen Y6.out 1
  have g_2 := blk_frozen Y6.out 2
  have g_3 := blk_frozen Y6.out 3
  have g_4 := blk_frozen Y6.out 4
  have n1 : w.heap.size ≠ w.heap.size + 1 := by omega
  have n2 : w.heap.size + 1 ≠ w.heap.size := by omega
  generalize su.length = l1 at *
  generalize ([] : List S24).length = l2 at *
  go_wp2
  have Z6 := am (blk_far (p := ⟨w.heap.size, 1, none⟩) (blk_far (p := ⟨w.heap.size, 0, none⟩) Y6.out n2 (.slice Ap l1 cp)) n2 (.slice Aq l2 cq))
  have Q0 := am (rs2 (v0 := .slice Ap l1 cp) (v1 := .slice Aq l2 cq) R0 Y3 (by decide))
  have Q1 := am (rs2 (v0 := .slice Ap l1 cp) (v1 := .slice Aq l2 cq) R1 Y3 (by decide))
  have QB := below_set (below_set YB.out (show w.heap.size ≤ w.heap.size by omega) (j := 0) (v := .slice Ap l1 cp)) (show w.heap.size ≤ w.heap.size by omega) (j := 1) (v := .slice Aq l2 cq)
  have e6 := bp5 (a' := .slice Ap l1 cp) (b' := .slice Aq l2 cq) (c' := .int .i64 sq) (d' := .int .i64 hf) (e' := .int .i64 ln) Z6.out
  exact bodyPost_ret (XB.resultsX_list (rs := [.cell 6 56, .tmp 7]) rfl (by simp) (.cell (w.heap.size + 1) 56 #[.slice Ap l1 cp, .slice Aq l2 cq, .int .i64 sq, .int .i64 hf, .int .i64 ln] (0, 0) _ rfl e6 Try.underlying56 rfl (by kernel_rfl) (.tmp .nil))) rfl
    ⟨_, _, rfl, rs5 Q0 Z6 (by decide), rs5 Q1 Z6 (by decide), below_set (below_set (below_set (below_set (below_set QB (by omega)) (by omega)) (by omega)) (by omega)) (by omega)⟩
end Go.Proofs.Ytcfinlmocgbnbaa.Pr
end
section
namespace Go.Proofs.Ytcfinlmocgbnbaa.Pr
open Go.Proofs.Ytcfinlmocgbnbaa.Sq Go.RowKit Go.Shelf Go.Proofs.Ytcfinlmocgbnbaa.XB Go.Proofs.YtcfinlmocgbnbaaW.PrintWords Go.Proofs.YtcfinlmocgbnbaaW.PrintLast Go.Proofs.YtcfinlmocgbnbaaW.PrintMore
attribute [local go_sem] Oper.semAt_some
set_option linter.unusedVariables false
set_option linter.unusedSimpArgs false
set_option maxRecDepth 100000
structure HdI where
  is : Bool
  q : Int
  h : Int
  l : Int
def better (b m : HdI) : HdI := if m.is = true ∧ b.q < m.q then m else b
def bestI (m : Nat → HdI) : Nat → HdI
  | 0 => ⟨false, -1, 0, 0⟩
  | i + 1 => better (bestI m i) (m i)
def vop.T18 : Bool × List (List Nat × List Nat) := (true, [([], []), ([0], [0]), ([], []), ([2], [2]), ([1, 3, 0, 1], [1]), ([3, 4, 0, 1, 2, 3, 4], [3]), ([5, 0, 1, 2, 3, 4, 5], [])])
def vop.B18 : List Nat := [0, 1, 0, 4, 15, 31, 63]
theorem vop.tab18 : rtab .any (opsOf Try.f35 18) = vop.T18 := by kernel_rfl
theorem vop.bits18 : waitsOk vop.T18.2 vop.B18 = true := by kernel_rfl
set_option maxHeartbeats 8000000 in
theorem vopen_ok {su r1 : List ByteArray} {A0 A1 : Option Addr} {c0 c1 : Nat} {er bq bh bl : Int} {b0 : Bool} {T : ByteArray} (s : Nat → ByteArray) (m : Nat → HdI) (w : World)
    (hsu : Kd.C Kd.string w A0 su.length su) (hc0 : su.length ≤ c0) (hso : Kd.C k24 w A1 0 ([] : List S24)) (hmay : vault_may.f su [] = some true) (hlen : su.length < 8796093022208)
    (hR : ∀ i : Nat, i < 2 → ∀ W, Below w.heap.size w W → Calls Try.prog 22 #[.agg #[.slice A0 su.length c0, .slice A1 0 c1], .int .i64 (i : Int)] W fun e w' => e = .returned (.tuple #[.string (s i), .int .i64 0]) ∧ Below W.heap.size W w')
    (hB : ∀ i : Nat, i < 2 → ∀ W g, Below w.heap.size w W → w.heap.size ≤ g → W.heap[g]? = some (.cells #[.slice A0 su.length c0, .slice A1 0 c1, .int .i64 (0), .int .i64 (0), .int .i64 (0)] 89 (0, 0)) → Calls Try.prog 60 #[.pointer (some ⟨g, 0, none⟩), .string (s i)] W fun e w' => e = .returned (.bool (m i).is) ∧ w'.heap[g]? = some (.cells #[.slice A0 su.length c0, .slice A1 0 c1, .int .i64 ((m i).q), .int .i64 ((m i).h), .int .i64 ((m i).l)] 89 (0, 0)) ∧ Below w.heap.size w w' ∧ (∀ g' o, g' ≠ g → W.heap[g']? = some o → w'.heap[g']? = some o))
    (hp : ∀ i : Nat, i < 2 → (m i).is = true → (m i).q.tmod 2 = i) (hq : ∀ i : Nat, i < 2 → 0 ≤ (m i).q)
    (hb2 : bestI m 2 = ⟨b0, bq, bh, bl⟩)
    (hdo : disk_Do.f su [] [⟨true, 0, ⟨#[]⟩⟩] = some (r1, [], er)) (hbest : 0 ≤ bq)
    (hT : ∀ W Ap cp Aq cq, Kd.C Kd.string W Ap r1.length r1 → r1.length ≤ cp → Kd.C k24 W Aq 0 ([] : List S24) → Calls Try.prog 61 #[.agg #[.slice Ap r1.length cp, .slice Aq 0 cq, .int .i64 bq, .int .i64 bh, .int .i64 bl]] W fun e w' => e = .returned (.string T) ∧ Below W.heap.size W w') :
    Calls Try.prog 35 #[.agg #[.slice A0 su.length c0, .slice A1 0 c1]] w fun e w' => ∃ v0 v1, e = .returned (.tuple #[.agg #[v0, v1, .int .i64 bq, .int .i64 bh, .int .i64 bl], .string T, .int .i64 0]) ∧ Kd.R Kd.string 9 w' w.heap.size (fun _ => True) v0 r1 ∧ Kd.R k24 24 w' w.heap.size (fun _ => True) v1 ([] : List S24) ∧ Below w.heap.size w w' := by
  have HM := Lib.hid (show ∀ W, Below w.heap.size w W → Calls Try.prog 54 #[.agg #[.slice A0 su.length c0, .slice A1 0 c1]] W fun e w' => e = .returned (.bool true) ∧ Below W.heap.size W w' from fun W h => vault_may.calls _ _ su _ c1 [] true W (Kd.C_below hsu h) hc0 (Kd.C_below hso h) (Nat.zero_le _) hmay)
  have HR := Lib.hid hR
  have HB := Lib.hid hB
  have HPP := Lib.hid (And.intro hp hq)
  have HBB := Lib.hid hb2
  have HD := Lib.hid (show ∀ W (A : Option Addr) (c : Nat), Below w.heap.size w W → Kd.C k24 W A 1 [⟨true, 0, ⟨#[]⟩⟩] → 1 ≤ c → Calls Try.prog 25 #[.agg #[.slice A0 su.length c0, .slice A1 0 c1], .slice A 1 c] W fun e w' => ∃ v0_ v1_ : Value, e = .returned (.tuple #[.agg #[v0_, v1_], .int .i64 er]) ∧ Kd.R Kd.string 9 w' W.heap.size (fun _ => True) v0_ r1 ∧ Kd.R k24 24 w' W.heap.size (fun _ => True) v1_ ([] : List S24) ∧ Below W.heap.size W w' from fun W A c h hm hc => disk_Do.calls A0 c0 su A1 c1 [] A c [⟨true, 0, ⟨#[]⟩⟩] r1 [] er W (Kd.C_below hsu h) hc0 (Kd.C_below hso h) (Nat.zero_le _) hm hc hdo)
  have HT := Lib.hid hT
  clear hdo hT
  clear hb2 hR hB hsu hso hmay hp hq
  go_enter Try.func35, Try.ntmps35
  go_wp2_with fail
  generalize hW0 : World.alloc (World.alloc w _) _ = W0
  have F1 : W0.heap[w.heap.size]? = some (.cells #[.slice A0 su.length c0, .slice A1 0 c1] 30 (0, 0)) := by rw [← hW0]; exact (boxes2 _ _).1
  have F2 : W0.heap[w.heap.size + 1]? = some (.cells #[.slice none 0 0, .slice none 0 0, .int .i64 0, .int .i64 0, .int .i64 0] 56 (0, 0)) := by rw [← hW0]; exact (boxes2 _ _).2
  have FB : Below w.heap.size w W0 := by rw [← hW0]; exact below_alloc (below_alloc (Below.refl _ _) _) _
  clear hW0
  refine (HM.out W0 FB).mono ?_
  rintro e W1 ⟨rfl, hb⟩
  have G1 := Lib.hid (blk_same F1 hb)
  have G2 := Lib.hid (blk_same F2 hb)
  have GB := Lib.hid (below_step FB hb)
  have c_0 := (blk_cell G1.out 0).trans rfl
  have c_1 := (blk_cell G1.out 1).trans rfl
  clear hb F1 F2 FB HM W0
  go_wp2_with fail
  generalize hX : World.alloc W1 _ = X
  have X1 := Lib.hid (show X.heap[w.heap.size]? = some (.cells #[.slice A0 su.length c0, .slice A1 0 c1] 30 (0, 0)) by rw [← hX]; exact bkA G1.out _)
  have X2 := Lib.hid (show X.heap[w.heap.size + 1]? = some (.cells #[.slice none 0 0, .slice none 0 0, .int .i64 0, .int .i64 0, .int .i64 0] 56 (0, 0)) by rw [← hX]; exact bkA G2.out _)
  have X5 := Lib.hid (show X.heap[W1.heap.size]? = some (.cells #[.slice A0 su.length c0, .slice A1 0 c1, .int .i64 (-1), .int .i64 (0), .int .i64 (0)] 89 (0, 0)) by rw [← hX]; exact heap_alloc_new W1 _)
  have XW := Lib.hid (show Below w.heap.size w X by rw [← hX]; exact below_alloc GB.out _)
  have hlt : w.heap.size + 1 < W1.heap.size := Go.Proofs.YtcfinlmocgbnbaaW.PrintWords.blk_lt G2.out
  clear hX c_0 c_1 G1 G2 GB
  go_loopw [20] (fun v Y => ∃ i : Nat, i ≤ 2 ∧ v = .int .i64 (i : Int) ∧ Y.heap[w.heap.size]? = some (.cells #[.slice A0 su.length c0, .slice A1 0 c1] 30 (0, 0)) ∧ Y.heap[w.heap.size + 1]? = some (.cells #[.slice none 0 0, .slice none 0 0, .int .i64 0, .int .i64 0, .int .i64 0] 56 (0, 0)) ∧ Y.heap[W1.heap.size]? = some (.cells #[.slice A0 su.length c0, .slice A1 0 c1, .int .i64 ((bestI m i).q), .int .i64 ((bestI m i).h), .int .i64 ((bestI m i).l)] 89 (0, 0)) ∧ Below w.heap.size w Y) (fun v _ => 2 - (intOf v).toNat)
  case atStart => exact ⟨0, by omega, rfl, X1.out, X2.out, X5.out, XW.out⟩
  case round =>
    clear X1 X2 X5 XW
    obtain ⟨i, hi, rfl, h1, h2, h5, hW⟩ := hrel
    by_cases hlt2 : i < 2
    · have hrd := fun W h => HR.out i hlt2 W h
      have hbk := fun W g h1 h2 h3 => HB.out i hlt2 W g h1 h2 h3
      obtain ⟨hp0, hq0⟩ := HPP.out
      replace hp0 := hp0 i hlt2
      replace hq0 := hq0 i hlt2
      have hbn : bestI m (i + 1) = better (bestI m i) (m i) := rfl
      have HRD := Lib.hid hrd
      have HBK := Lib.hid hbk
      have HBN := Lib.hid hbn
      have HP0 := Lib.hid hp0
      have HB5 := Lib.hid h5
      have HB1 := Lib.hid h1
      have HB2 := Lib.hid h2
      have HBW := Lib.hid hW
      have c_0 := (blk_cell h1 0).trans rfl
      have c_1 := (blk_cell h1 1).trans rfl
      clear hrd hbk hbn hp0 h1 h2 h5 hW HR HB HPP
      generalize bestI m i = bo at *
      generalize m i = mi at *
      generalize s i = si at *
      obtain ⟨is, mq, mh, ml⟩ := mi
      simp only at hq0 HP0 HBK
      go_wp2_with fail
      refine (HRD.out _ HBW.out).mono ?_
      rintro e W2 ⟨rfl, hb⟩
      have D1 := Lib.hid (blk_same HB1.out hb)
      have D2 := Lib.hid (blk_same HB2.out hb)
      have D5 := Lib.hid (blk_same HB5.out hb)
      have DW := Lib.hid (below_step HBW.out hb)
      clear hb HB1 HB2 HB5 HBW HRD c_0 c_1
      have c_0 := (blk_cell D1.out 0).trans rfl
      have c_1 := (blk_cell D1.out 1).trans rfl
      go_wp2_with fail
      generalize hX2 : World.alloc W2 _ = X2
      have E1 := Lib.hid (show X2.heap[w.heap.size]? = some (.cells #[.slice A0 su.length c0, .slice A1 0 c1] 30 (0, 0)) by rw [← hX2]; exact bkA D1.out _)
      have E2 := Lib.hid (show X2.heap[w.heap.size + 1]? = some (.cells #[.slice none 0 0, .slice none 0 0, .int .i64 0, .int .i64 0, .int .i64 0] 56 (0, 0)) by rw [← hX2]; exact bkA D2.out _)
      have E5 := Lib.hid (show X2.heap[W1.heap.size]? = some (.cells #[.slice A0 su.length c0, .slice A1 0 c1, .int .i64 (bo.q), .int .i64 (bo.h), .int .i64 (bo.l)] 89 (0, 0)) by rw [← hX2]; exact bkA D5.out _)
      have E9 := Lib.hid (show X2.heap[W2.heap.size]? = some (.cells #[.slice A0 su.length c0, .slice A1 0 c1, .int .i64 (0), .int .i64 (0), .int .i64 (0)] 89 (0, 0)) by rw [← hX2]; exact heap_alloc_new W2 _)
      have EW := Lib.hid (show Below w.heap.size w X2 by rw [← hX2]; exact below_alloc DW.out _)
      have l5 : W1.heap.size < W2.heap.size := Go.Proofs.YtcfinlmocgbnbaaW.PrintWords.blk_lt D5.out
      clear hX2 c_0 c_1 D1 D2 D5 DW
      refine (HBK.out X2 W2.heap.size EW.out (by omega) E9.out).mono ?_
      rintro e W3 ⟨rfl, hb9, hbw, hot⟩
      have I1 := Lib.hid (hot _ _ (by omega) E1.out)
      have I2 := Lib.hid (hot _ _ (by omega) E2.out)
      have I5 := Lib.hid (hot _ _ (by omega) E5.out)
      have I9 := Lib.hid hb9
      have IW := Lib.hid hbw
      have b_2 := (blk_cell I9.out 2).trans rfl
      have o_2 := (blk_cell I5.out 2).trans rfl
      clear hb9 hbw hot E1 E2 E5 E9 EW HBK
      cases is with
      | false =>
        have hne : ¬ (false = true ∧ bo.q < mq) := by simp
        have HE := Lib.hid (show bestI m (i + 1) = bo by rw [HBN.out]; unfold better; rw [if_neg hne])
        go_wp2
        go_roundw
        case rel => exact ⟨i + 1, by omega, congrArg (Value.int .i64) (by omega), I1.out, I2.out, by rw [HE.out]; exact I5.out, IW.out⟩
        case measure => simp [intOf]; omega
      | true =>
        have hpe : mq.tmod 2 = (i : Int) := HP0.out rfl
        have hpf : mq % 2 = (i : Int) := by rw [← hpe]; exact (Int.tmod_eq_emod_of_nonneg hq0).symm
        by_cases hgt : bo.q < mq
        · have HE := Lib.hid (show bestI m (i + 1) = ⟨true, mq, mh, ml⟩ by rw [HBN.out]; unfold better; rw [if_pos ⟨rfl, hgt⟩])
          have b_0 := (blk_cell I9.out 0).trans rfl
          have b_1 := (blk_cell I9.out 1).trans rfl
          have b_3 := (blk_cell I9.out 3).trans rfl
          have b_4 := (blk_cell I9.out 4).trans rfl
          have o_0 := (blk_cell I5.out 0).trans rfl
          have o_1 := (blk_cell I5.out 1).trans rfl
          have o_3 := (blk_cell I5.out 3).trans rfl
          have o_4 := (blk_cell I5.out 4).trans rfl
          have f_0 := blk_frozen I5.out 0
          have f_1 := blk_frozen I5.out 1
          have f_2 := blk_frozen I5.out 2
          have f_3 := blk_frozen I5.out 3
          have f_4 := blk_frozen I5.out 4
          go_wp2
          go_roundw
          case rel => exact ⟨i + 1, by omega, congrArg (Value.int .i64) (by omega), br5 I1.out (am (by omega)), br5 I2.out (am (by omega)), by rw [HE.out]; exact bp5 I5.out, below_set (below_set (below_set (below_set (below_set IW.out (by omega)) (by omega)) (by omega)) (by omega)) (by omega)⟩
          case measure => simp [intOf]; omega
        · have hne : ¬ (true = true ∧ bo.q < mq) := by simp [hgt]
          have HE := Lib.hid (show bestI m (i + 1) = bo by rw [HBN.out]; unfold better; rw [if_neg hne])
          go_wp2
          go_roundw
          case rel => exact ⟨i + 1, by omega, congrArg (Value.int .i64) (by omega), I1.out, I2.out, by rw [HE.out]; exact I5.out, IW.out⟩
          case measure => simp [intOf]; omega
    · obtain rfl : i = 2 := by omega
      rw [HBB.out] at h5
      dsimp only at h5
      have C1 := am h1
      have C2 := am h2
      have C5 := am h5
      have CW := am hW
      have c1_0 := (blk_cell h1 0).trans rfl
      have c1_1 := (blk_cell h1 1).trans rfl
      have c5_2 := (blk_cell h5 2).trans rfl
      clear h1 h2 h5 hW HR HB HPP
      have hnb : ¬ bq < 0 := by omega
      go_wp2_with (first | ((with_reducible refine gate_dst (N := 70) rfl ?_); refine Kd.R_lit k24 _ 24 ?hg (N := 70) ?hd (xs := ([(⟨true, 0, (⟨#[]⟩ : ByteArray)⟩ : S24)] : List S24)) (inner := [.bool true, .int .i64 0, .string ⟨#[]⟩]) (ok := fun _ => True) (okp := fun _ => True) ?hr ?hp (fun _ hk => hk) trivial (Below.refl _ _) (Nat.le_refl _) (by simp) ?_; (case hd => rfl); (case hg => rfl); (case hr => first | (go_simp; done) | (go_simp; rfl)); (case hp => exact (Reps.c3 (show Kd.M k24 _ _ _ (⟨true, 0, (⟨#[]⟩ : ByteArray)⟩ : S24) [.bool true, .int .i64 0, .string (⟨#[]⟩ : ByteArray)] from (k24_mkM _ _ _ (⟨true, 0, (⟨#[]⟩ : ByteArray)⟩ : S24))) (Reps.none _ _))); intro vl W4 hol hb hg_ hnew_; clear hg_ hnew_ c1_0 c1_1 c5_2; obtain ⟨Al, cl, el⟩ := Kd.R_slice hol; subst el; have HLL := Lib.hid (Kd.R_reads' hol).2.2; have HLC := Lib.hid (Kd.R_reads' hol).2.1; have m1_ := am (blk_same C1.out hb); have m2_ := am (blk_same C2.out hb); have m5_ := am (blk_same C5.out hb); have mW_ := am (below_step CW.out hb); clear C1 C2 C5 CW hol hb; have C1 := m1_; have C2 := m2_; have C5 := m5_; have CW := mW_; clear m1_ m2_ m5_ mW_))
      refine (HD.out _ Al cl CW.out HLL.out HLC.out).mono ?_
      rintro e W5 ⟨v0, v1, rfl, h0, h1, hb⟩
      obtain ⟨Ap, cp, ep⟩ := Kd.R_slice h0
      subst ep
      obtain ⟨Aq, cq, eq⟩ := Kd.R_slice h1
      subst eq
      have R0 := am (Kd.R_lower h0 CW.out.size)
      have R1 := am (Kd.R_lower h1 CW.out.size)
      have m2_ := am (blk_same C2.out hb); have m5_ := am (blk_same C5.out hb); have mW_ := am (below_step CW.out hb); clear C1 C2 C5 CW h0 h1 hb HLL HLC HD; have C2 := m2_; have C5 := m5_; have CW := mW_; clear m2_ m5_ mW_
      have c5_0 := (blk_cell C5.out 0).trans rfl
      have c5_1 := (blk_cell C5.out 1).trans rfl
      have f5_0 := blk_frozen C5.out 0
      have f5_1 := blk_frozen C5.out 1
      go_wp2_with fail
      have D5 : Aside0 (((W5.setCell ⟨W1.heap.size, 0, none⟩ (.slice Ap r1.length cp)).setCell ⟨W1.heap.size, 1, none⟩ (.slice Aq ([] : List S24).length cq)).heap[W1.heap.size]? = some (.cells #[.slice Ap r1.length cp, .slice Aq 0 cq, .int .i64 bq, .int .i64 bh, .int .i64 bl] 89 (0, 0))) := am (blk_put (cs := #[.slice Ap r1.length cp, .slice A1 0 c1, .int .i64 bq, .int .i64 bh, .int .i64 bl]) (blk_put (cs := #[.slice A0 su.length c0, .slice A1 0 c1, .int .i64 bq, .int .i64 bh, .int .i64 bl]) C5.out 0 _ rfl) 1 _ rfl)
      have D2 := am (blk_far (p := ⟨W1.heap.size, 1, none⟩) (blk_far (p := ⟨W1.heap.size, 0, none⟩) C2.out (show w.heap.size + 1 ≠ W1.heap.size by omega) (.slice Ap r1.length cp)) (show w.heap.size + 1 ≠ W1.heap.size by omega) (.slice Aq ([] : List S24).length cq))
      have Q0 := am (rs2 (v0 := .slice Ap r1.length cp) (v1 := .slice Aq ([] : List S24).length cq) R0 C5 (by decide))
      have Q1 := am (rs2 (v0 := .slice Ap r1.length cp) (v1 := .slice Aq ([] : List S24).length cq) R1 C5 (by decide))
      have DW := am (below_set (below_set CW.out (show w.heap.size ≤ W1.heap.size by omega) (j := 0) (v := .slice Ap r1.length cp)) (show w.heap.size ≤ W1.heap.size by omega) (j := 1) (v := .slice Aq ([] : List S24).length cq))
      clear C2 C5 CW R0 R1 c5_0 c5_1 f5_0 f5_1
      simp only [List.length_nil] at D5 D2 Q0 Q1 DW
      generalize (W5.setCell ⟨W1.heap.size, 0, none⟩ (.slice Ap r1.length cp)).setCell ⟨W1.heap.size, 1, none⟩ (.slice Aq 0 cq) = Z at *
      have C2 := am (Go.Proofs.YtcfinlmocgbnbaaW.PrintWords.bkD D2.out)
      have C5 := am (Go.Proofs.YtcfinlmocgbnbaaW.PrintWords.bkD D5.out)
      have CW := am (below_step DW.out (below_drew1 (Below.refl Z.heap.size Z)))
      have R0 := am (Kd.R_drew Q0.out)
      have R1 := am (Kd.R_drew Q1.out)
      clear D2 D5 DW Q0 Q1
      refine start_ (n := 7) (S := fun w' => w'.cell? ⟨W1.heap.size, 0, none⟩ = some (.slice Ap r1.length cp) ∧ w'.cell? ⟨W1.heap.size, 1, none⟩ = some (.slice Aq 0 cq) ∧ w'.cell? ⟨W1.heap.size, 2, none⟩ = some (.int .i64 bq) ∧ w'.cell? ⟨W1.heap.size, 3, none⟩ = some (.int .i64 bh) ∧ w'.cell? ⟨W1.heap.size, 4, none⟩ = some (.int .i64 bl)) (ds := [4]) #[false, false, false, false, false, false, false] (by kernel_rfl) rfl rfl (bc5 C5) (fun hHeld => ?_); refine with_tabW vop.tab18 vop.bits18 (fun HT_ HW_ => ?_)
      generalize Z.drew = W9 at C2 C5 CW R0 R1 hHeld ⊢
      refine pu_ 0 (some 76) HT_ rfl rfl (.inl ⟨by rfl, by intro w'; go_simp; with_reducible rfl⟩) (by simp only [Act.put, sa_, s0_, s1_, i64_w, i32_w]; rfl) ?_
      refine tk_ 1 (some 77) HT_ HW_ rfl rfl (.inl ⟨by rfl, by rintro w' ⟨s0, s1, s2, s3, s4⟩; go_simp; with_reducible rfl⟩) hHeld (by simp only [Act.put, sa_, s0_, s1_, i64_w, i32_w]; rfl) ?_
      refine tk_ 2 (some 78) HT_ HW_ rfl rfl (.inl ⟨by rfl, by rintro w' ⟨s0, s1, s2, s3, s4⟩; go_simp; with_reducible rfl⟩) hHeld (by simp only [Act.put, sa_, s0_, s1_, i64_w, i32_w]; rfl) ?_
      refine on_ 3 (some 79) HT_ rfl rfl (fun K hK => ?_)
      refine goes_ Try.func61 (by kernel_rfl) rfl #[.agg #[.slice Ap r1.length cp, .slice Aq 0 cq, .int .i64 bq, .int .i64 bh, .int .i64 bl]] (by rfl) rfl rfl (by (try simp only [List.map_toArray, List.map_cons, List.map_nil]) <;> rfl) ?_
      refine (HT.out _ Ap cp Aq cq (Kd.R_reads' R0.out).2.2 (Kd.R_reads' R0.out).2.1 (Kd.R_reads' R1.out).2.2).mono ?_
      rintro e W5 ⟨rfl, hb⟩
      refine ⟨_, rfl, ?_⟩
      have m0_ := am (blk_same C2.out hb); have m1_ := am (blk_same C5.out hb); have m2_ := am (below_step CW.out hb); have m3_ := am (Kd.R_below R0.out hb); have m4_ := am (Kd.R_below R1.out hb); clear C2 C5 CW R0 R1; have C2 := m0_; have C5 := m1_; have CW := m2_; have R0 := m3_; have R1 := m4_; clear m0_ m1_ m2_ m3_ m4_ hb
      refine hK.out _ _ (bc5 C5) (fun hHeld => ?_)
      clear hK K
      refine norm_ (by show Act.put _ (some 79) _ = _; simp only [Act.put, sa_, s0_, s1_, i64_w, i32_w]; rfl) ?_
      refine la_ 4 none HT_ rfl rfl (fun K hK => ?_)
      have hc0 := (blk_cell C2.out 0).trans rfl; have hf0 := blk_frozen C2.out 0
      have hc1 := (blk_cell C2.out 1).trans rfl; have hf1 := blk_frozen C2.out 1
      have hc2 := (blk_cell C2.out 2).trans rfl; have hf2 := blk_frozen C2.out 2
      have hc3 := (blk_cell C2.out 3).trans rfl; have hf3 := blk_frozen C2.out 3
      have hc4 := (blk_cell C2.out 4).trans rfl; have hf4 := blk_frozen C2.out 4
      refine skip_ (by rfl) rfl (by go_simp; rfl) ?_
      clear hc0 hc1 hc2 hc3 hc4 hf0 hf1 hf2 hf3 hf4
      refine hK.out _ _ ?_
      clear hK K
      refine pu_ 5 (some 3) HT_ rfl rfl (.inl ⟨by rfl, by intro w'; go_simp; with_reducible rfl⟩) (by simp only [Act.put, sa_, s0_, s1_, i64_w, i32_w]; rfl) ?_
      refine pu_ 6 (some 4) HT_ rfl rfl (.inl ⟨by rfl, by intro w'; go_simp; with_reducible rfl⟩) (by simp only [Act.put, sa_, s0_, s1_, i64_w, i32_w]; rfl) ?_
      refine done_ (done_of HT_.out (by kernel_rfl)) ?_
      go_wp2
      have e2 := bp5 (a' := .slice Ap r1.length cp) (b' := .slice Aq 0 cq) (c' := .int .i64 bq) (d' := .int .i64 bh) (e' := .int .i64 bl) C2.out
      exact bodyPost_ret (XB.resultsX_list (rs := [.cell 2 56, .tmp 3, .tmp 4]) rfl (by simp) (.cell (w.heap.size + 1) 56 #[.slice Ap r1.length cp, .slice Aq 0 cq, .int .i64 bq, .int .i64 bh, .int .i64 bl] (0, 0) _ rfl e2 Try.underlying56 rfl (by kernel_rfl) (.tmp (.tmp .nil)))) rfl ⟨_, _, rfl, rs5 R0 C2 (by decide), rs5 R1 C2 (by decide), below_set (below_set (below_set (below_set (below_set CW.out (by omega)) (by omega)) (by omega)) (by omega)) (by omega)⟩
set_option maxHeartbeats 8000000 in
theorem vopen_none {su r1 : List ByteArray} {A0 A1 : Option Addr} {c0 c1 : Nat} {er bq bh bl : Int} {b0 : Bool} {T : ByteArray} (s : Nat → ByteArray) (m : Nat → HdI) (w : World)
    (hsu : Kd.C Kd.string w A0 su.length su) (hc0 : su.length ≤ c0) (hso : Kd.C k24 w A1 0 ([] : List S24)) (hmay : vault_may.f su [] = some true) (hlen : su.length < 8796093022208)
    (hR : ∀ i : Nat, i < 2 → ∀ W, Below w.heap.size w W → Calls Try.prog 22 #[.agg #[.slice A0 su.length c0, .slice A1 0 c1], .int .i64 (i : Int)] W fun e w' => e = .returned (.tuple #[.string (s i), .int .i64 0]) ∧ Below W.heap.size W w')
    (hB : ∀ i : Nat, i < 2 → ∀ W g, Below w.heap.size w W → w.heap.size ≤ g → W.heap[g]? = some (.cells #[.slice A0 su.length c0, .slice A1 0 c1, .int .i64 (0), .int .i64 (0), .int .i64 (0)] 89 (0, 0)) → Calls Try.prog 60 #[.pointer (some ⟨g, 0, none⟩), .string (s i)] W fun e w' => e = .returned (.bool (m i).is) ∧ w'.heap[g]? = some (.cells #[.slice A0 su.length c0, .slice A1 0 c1, .int .i64 ((m i).q), .int .i64 ((m i).h), .int .i64 ((m i).l)] 89 (0, 0)) ∧ Below w.heap.size w w' ∧ (∀ g' o, g' ≠ g → W.heap[g']? = some o → w'.heap[g']? = some o))
    (hp : ∀ i : Nat, i < 2 → (m i).is = true → (m i).q.tmod 2 = i) (hq : ∀ i : Nat, i < 2 → 0 ≤ (m i).q)
    (hb2 : bestI m 2 = ⟨b0, bq, bh, bl⟩)
    (hbest : bq < 0) :
    Calls Try.prog 35 #[.agg #[.slice A0 su.length c0, .slice A1 0 c1]] w fun e w' => ∃ v0 v1, e = .returned (.tuple #[.agg #[v0, v1, .int .i64 0, .int .i64 0, .int .i64 0], .string ⟨#[]⟩, .int .i64 25]) ∧ Kd.R Kd.string 9 w' w.heap.size (fun _ => True) v0 su ∧ Kd.R k24 24 w' w.heap.size (fun _ => True) v1 ([] : List S24) ∧ Below w.heap.size w w' := by
  have HM := Lib.hid (show ∀ W, Below w.heap.size w W → Calls Try.prog 54 #[.agg #[.slice A0 su.length c0, .slice A1 0 c1]] W fun e w' => e = .returned (.bool true) ∧ Below W.heap.size W w' from fun W h => vault_may.calls _ _ su _ c1 [] true W (Kd.C_below hsu h) hc0 (Kd.C_below hso h) (Nat.zero_le _) hmay)
  have HR := Lib.hid hR
  have HB := Lib.hid hB
  have HPP := Lib.hid (And.intro hp hq)
  have HBB := Lib.hid hb2
  have HD := Lib.hid (show ∀ W, Below w.heap.size w W → Calls Try.prog 55 #[.agg #[.slice A0 su.length c0, .slice A1 0 c1]] W fun e w' => ∃ v0_ v1_ : Value, e = .returned (.agg #[v0_, v1_]) ∧ Kd.R Kd.string 9 w' W.heap.size (fun _ => True) v0_ su ∧ Kd.R k24 24 w' W.heap.size (fun _ => True) v1_ ([] : List S24) ∧ Below W.heap.size W w' from fun W h => vault_own.calls A0 c0 su A1 c1 [] su [] W (Kd.C_below hsu h) hc0 (Kd.C_below hso h) (Nat.zero_le _) (own_f ⟨hlen, by simp⟩))
  clear hb2 hR hB hsu hso hmay hp hq
  go_enter Try.func35, Try.ntmps35
  go_wp2_with fail
  generalize hW0 : World.alloc (World.alloc w _) _ = W0
  have F1 : W0.heap[w.heap.size]? = some (.cells #[.slice A0 su.length c0, .slice A1 0 c1] 30 (0, 0)) := by rw [← hW0]; exact (boxes2 _ _).1
  have F2 : W0.heap[w.heap.size + 1]? = some (.cells #[.slice none 0 0, .slice none 0 0, .int .i64 0, .int .i64 0, .int .i64 0] 56 (0, 0)) := by rw [← hW0]; exact (boxes2 _ _).2
  have FB : Below w.heap.size w W0 := by rw [← hW0]; exact below_alloc (below_alloc (Below.refl _ _) _) _
  clear hW0
  refine (HM.out W0 FB).mono ?_
  rintro e W1 ⟨rfl, hb⟩
  have G1 := Lib.hid (blk_same F1 hb)
  have G2 := Lib.hid (blk_same F2 hb)
  have GB := Lib.hid (below_step FB hb)
  have c_0 := (blk_cell G1.out 0).trans rfl
  have c_1 := (blk_cell G1.out 1).trans rfl
  clear hb F1 F2 FB HM W0
  go_wp2_with fail
  generalize hX : World.alloc W1 _ = X
  have X1 := Lib.hid (show X.heap[w.heap.size]? = some (.cells #[.slice A0 su.length c0, .slice A1 0 c1] 30 (0, 0)) by rw [← hX]; exact bkA G1.out _)
  have X2 := Lib.hid (show X.heap[w.heap.size + 1]? = some (.cells #[.slice none 0 0, .slice none 0 0, .int .i64 0, .int .i64 0, .int .i64 0] 56 (0, 0)) by rw [← hX]; exact bkA G2.out _)
  have X5 := Lib.hid (show X.heap[W1.heap.size]? = some (.cells #[.slice A0 su.length c0, .slice A1 0 c1, .int .i64 (-1), .int .i64 (0), .int .i64 (0)] 89 (0, 0)) by rw [← hX]; exact heap_alloc_new W1 _)
  have XW := Lib.hid (show Below w.heap.size w X by rw [← hX]; exact below_alloc GB.out _)
  have hlt : w.heap.size + 1 < W1.heap.size := Go.Proofs.YtcfinlmocgbnbaaW.PrintWords.blk_lt G2.out
  clear hX c_0 c_1 G1 G2 GB
  go_loopw [20] (fun v Y => ∃ i : Nat, i ≤ 2 ∧ v = .int .i64 (i : Int) ∧ Y.heap[w.heap.size]? = some (.cells #[.slice A0 su.length c0, .slice A1 0 c1] 30 (0, 0)) ∧ Y.heap[w.heap.size + 1]? = some (.cells #[.slice none 0 0, .slice none 0 0, .int .i64 0, .int .i64 0, .int .i64 0] 56 (0, 0)) ∧ Y.heap[W1.heap.size]? = some (.cells #[.slice A0 su.length c0, .slice A1 0 c1, .int .i64 ((bestI m i).q), .int .i64 ((bestI m i).h), .int .i64 ((bestI m i).l)] 89 (0, 0)) ∧ Below w.heap.size w Y) (fun v _ => 2 - (intOf v).toNat)
  case atStart => exact ⟨0, by omega, rfl, X1.out, X2.out, X5.out, XW.out⟩
  case round =>
    clear X1 X2 X5 XW
    obtain ⟨i, hi, rfl, h1, h2, h5, hW⟩ := hrel
    by_cases hlt2 : i < 2
    · have hrd := fun W h => HR.out i hlt2 W h
      have hbk := fun W g h1 h2 h3 => HB.out i hlt2 W g h1 h2 h3
      obtain ⟨hp0, hq0⟩ := HPP.out
      replace hp0 := hp0 i hlt2
      replace hq0 := hq0 i hlt2
      have hbn : bestI m (i + 1) = better (bestI m i) (m i) := rfl
      have HRD := Lib.hid hrd
      have HBK := Lib.hid hbk
      have HBN := Lib.hid hbn
      have HP0 := Lib.hid hp0
      have HB5 := Lib.hid h5
      have HB1 := Lib.hid h1
      have HB2 := Lib.hid h2
      have HBW := Lib.hid hW
      have c_0 := (blk_cell h1 0).trans rfl
      have c_1 := (blk_cell h1 1).trans rfl
      clear hrd hbk hbn hp0 h1 h2 h5 hW HR HB HPP
      generalize bestI m i = bo at *
      generalize m i = mi at *
      generalize s i = si at *
      obtain ⟨is, mq, mh, ml⟩ := mi
      simp only at hq0 HP0 HBK
      go_wp2_with fail
      refine (HRD.out _ HBW.out).mono ?_
      rintro e W2 ⟨rfl, hb⟩
      have D1 := Lib.hid (blk_same HB1.out hb)
      have D2 := Lib.hid (blk_same HB2.out hb)
      have D5 := Lib.hid (blk_same HB5.out hb)
      have DW := Lib.hid (below_step HBW.out hb)
      clear hb HB1 HB2 HB5 HBW HRD c_0 c_1
      have c_0 := (blk_cell D1.out 0).trans rfl
      have c_1 := (blk_cell D1.out 1).trans rfl
      go_wp2_with fail
      generalize hX2 : World.alloc W2 _ = X2
      have E1 := Lib.hid (show X2.heap[w.heap.size]? = some (.cells #[.slice A0 su.length c0, .slice A1 0 c1] 30 (0, 0)) by rw [← hX2]; exact bkA D1.out _)
      have E2 := Lib.hid (show X2.heap[w.heap.size + 1]? = some (.cells #[.slice none 0 0, .slice none 0 0, .int .i64 0, .int .i64 0, .int .i64 0] 56 (0, 0)) by rw [← hX2]; exact bkA D2.out _)
      have E5 := Lib.hid (show X2.heap[W1.heap.size]? = some (.cells #[.slice A0 su.length c0, .slice A1 0 c1, .int .i64 (bo.q), .int .i64 (bo.h), .int .i64 (bo.l)] 89 (0, 0)) by rw [← hX2]; exact bkA D5.out _)
      have E9 := Lib.hid (show X2.heap[W2.heap.size]? = some (.cells #[.slice A0 su.length c0, .slice A1 0 c1, .int .i64 (0), .int .i64 (0), .int .i64 (0)] 89 (0, 0)) by rw [← hX2]; exact heap_alloc_new W2 _)
      have EW := Lib.hid (show Below w.heap.size w X2 by rw [← hX2]; exact below_alloc DW.out _)
      have l5 : W1.heap.size < W2.heap.size := Go.Proofs.YtcfinlmocgbnbaaW.PrintWords.blk_lt D5.out
      clear hX2 c_0 c_1 D1 D2 D5 DW
      refine (HBK.out X2 W2.heap.size EW.out (by omega) E9.out).mono ?_
      rintro e W3 ⟨rfl, hb9, hbw, hot⟩
      have I1 := Lib.hid (hot _ _ (by omega) E1.out)
      have I2 := Lib.hid (hot _ _ (by omega) E2.out)
      have I5 := Lib.hid (hot _ _ (by omega) E5.out)
      have I9 := Lib.hid hb9
      have IW := Lib.hid hbw
      have b_2 := (blk_cell I9.out 2).trans rfl
      have o_2 := (blk_cell I5.out 2).trans rfl
      clear hb9 hbw hot E1 E2 E5 E9 EW HBK
      cases is with
      | false =>
        have hne : ¬ (false = true ∧ bo.q < mq) := by simp
        have HE := Lib.hid (show bestI m (i + 1) = bo by rw [HBN.out]; unfold better; rw [if_neg hne])
        go_wp2
        go_roundw
        case rel => exact ⟨i + 1, by omega, congrArg (Value.int .i64) (by omega), I1.out, I2.out, by rw [HE.out]; exact I5.out, IW.out⟩
        case measure => simp [intOf]; omega
      | true =>
        have hpe : mq.tmod 2 = (i : Int) := HP0.out rfl
        have hpf : mq % 2 = (i : Int) := by rw [← hpe]; exact (Int.tmod_eq_emod_of_nonneg hq0).symm
        by_cases hgt : bo.q < mq
        · have HE := Lib.hid (show bestI m (i + 1) = ⟨true, mq, mh, ml⟩ by rw [HBN.out]; unfold better; rw [if_pos ⟨rfl, hgt⟩])
          have b_0 := (blk_cell I9.out 0).trans rfl
          have b_1 := (blk_cell I9.out 1).trans rfl
          have b_3 := (blk_cell I9.out 3).trans rfl
          have b_4 := (blk_cell I9.out 4).trans rfl
          have o_0 := (blk_cell I5.out 0).trans rfl
          have o_1 := (blk_cell I5.out 1).trans rfl
          have o_3 := (blk_cell I5.out 3).trans rfl
          have o_4 := (blk_cell I5.out 4).trans rfl
          have f_0 := blk_frozen I5.out 0
          have f_1 := blk_frozen I5.out 1
          have f_2 := blk_frozen I5.out 2
          have f_3 := blk_frozen I5.out 3
          have f_4 := blk_frozen I5.out 4
          go_wp2
          go_roundw
          case rel => exact ⟨i + 1, by omega, congrArg (Value.int .i64) (by omega), br5 I1.out (am (by omega)), br5 I2.out (am (by omega)), by rw [HE.out]; exact bp5 I5.out, below_set (below_set (below_set (below_set (below_set IW.out (by omega)) (by omega)) (by omega)) (by omega)) (by omega)⟩
          case measure => simp [intOf]; omega
        · have hne : ¬ (true = true ∧ bo.q < mq) := by simp [hgt]
          have HE := Lib.hid (show bestI m (i + 1) = bo by rw [HBN.out]; unfold better; rw [if_neg hne])
          go_wp2
          go_roundw
          case rel => exact ⟨i + 1, by omega, congrArg (Value.int .i64) (by omega), I1.out, I2.out, by rw [HE.out]; exact I5.out, IW.out⟩
          case measure => simp [intOf]; omega
    · obtain rfl : i = 2 := by omega
      rw [HBB.out] at h5
      dsimp only at h5
      have C1 := am h1
      have C2 := am h2
      have C5 := am h5
      have CW := am hW
      have c1_0 := (blk_cell h1 0).trans rfl
      have c1_1 := (blk_cell h1 1).trans rfl
      have c5_2 := (blk_cell h5 2).trans rfl
      clear h1 h2 h5 hW HR HB HPP
      go_wp2_with fail
      refine (HD.out _ CW.out).mono ?_
      rintro e W5 ⟨v0, v1, rfl, h0, h1, hb⟩
      obtain ⟨Ap, cp, ep⟩ := Kd.R_slice h0
      subst ep
      obtain ⟨Aq, cq, eq⟩ := Kd.R_slice h1
      subst eq
      have R0 := am (Kd.R_lower h0 CW.out.size)
      have R1 := am (Kd.R_lower h1 CW.out.size)
      have m2_ := am (blk_same C2.out hb); have mW_ := am (below_step CW.out hb); clear C2 C5 CW h0 h1 hb HD C1 c1_0 c1_1 c5_2; have C2 := m2_; have CW := mW_; clear m2_ mW_
      have e_0 := (blk_cell C2.out 0).trans rfl
      have g_0 := blk_frozen C2.out 0
      have e_1 := (blk_cell C2.out 1).trans rfl
      have g_1 := blk_frozen C2.out 1
      have e_2 := (blk_cell C2.out 2).trans rfl
      have g_2 := blk_frozen C2.out 2
      have e_3 := (blk_cell C2.out 3).trans rfl
      have g_3 := blk_frozen C2.out 3
      have e_4 := (blk_cell C2.out 4).trans rfl
      have g_4 := blk_frozen C2.out 4
      generalize su.length = l1 at *
      generalize ([] : List S24).length = l2 at *
      go_wp2
      have e2 := bp5 (a' := .slice Ap l1 cp) (b' := .slice Aq l2 cq) (c' := .int .i64 0) (d' := .int .i64 0) (e' := .int .i64 0) C2.out
      exact bodyPost_ret (XB.resultsX_list (rs := [.cell 2 56, .tmp 3, .tmp 4]) rfl (by simp) (.cell (w.heap.size + 1) 56 #[.slice Ap l1 cp, .slice Aq l2 cq, .int .i64 0, .int .i64 0, .int .i64 0] (0, 0) _ rfl e2 Try.underlying56 rfl (by kernel_rfl) (.tmp (.tmp .nil)))) rfl ⟨_, _, rfl, rs5 R0 C2 (by decide), rs5 R1 C2 (by decide), below_set (below_set (below_set (below_set (below_set CW.out (by omega)) (by omega)) (by omega)) (by omega)) (by omega)⟩
end Go.Proofs.Ytcfinlmocgbnbaa.Pr
end
section
namespace Go.Proofs.Ytcfinlmocgbnbaa.Pr
open Go.RowKit Go.Shelf Go.Proofs.Ytcfinlmocgbnbaa.XB Go.Proofs.YtcfinlmocgbnbaaW.PrintWords Go.Proofs.YtcfinlmocgbnbaaW.PrintMore
set_option linter.unusedVariables false
set_option linter.unusedSimpArgs false
def beI (n : Nat) : Nat → List Int
  | 0 => []
  | k + 1 => ((n / 256 ^ k % 256 : Nat) : Int) :: beI n k
def pI (q h l : Nat) : List Int := beI q 8 ++ beI h 4 ++ beI l 4
def headP (q h l : Nat) : ByteArray := strOfNums (pI q h l ++ (pI q h l).map (fun x => 255 - x) ++ List.replicate 32 0)
def nB (g : ByteArray) (a b : Nat) : Nat := num (g.extract a b).data.toList 0
def wdN (su : List ByteArray) : Nat := (su.length - 2) / 2
def blkN (su : List ByteArray) (i : Nat) : ByteArray := rdOf ByteArray.empty su (i : Int)
def hdI (wd : Nat) (g : ByteArray) : HdI := ⟨decide (nB g 0 8 ≤ 1099511627776) && decide (nB g 8 12 < 2) && decide (nB g 12 16 ≤ 64 * wd) && decide (headP (nB g 0 8) (nB g 8 12) (nB g 12 16) = g), (nB g 0 8 : Int), (nB g 8 12 : Int), (nB g 12 16 : Int)⟩
def smallB (g : ByteArray) : Bool := decide (nB g 0 8 < 9223372036854775808)
def goodB (su : List ByteArray) (so : List S24) (q h l : Int) : Bool :=
  so.isEmpty && rightB su [] && decide (4 ≤ su.length) && decide (0 ≤ q ∧ q ≤ 1099511627776 ∧ 0 ≤ h ∧ h ≤ 1 ∧ 0 ≤ l ∧ l ≤ 64 * (wdN su : Int)) && decide (blkN su (q.toNat % 2) = headP q.toNat h.toNat l.toNat) && smallB (blkN su (1 - q.toNat % 2)) &&
    (!(hdI (wdN su) (blkN su (1 - q.toNat % 2))).is || decide ((hdI (wdN su) (blkN su (1 - q.toNat % 2))).q < q))
def textN (su : List ByteArray) (h l : Nat) : ByteArray := (joinB su (2 + h * wdN su) (wdN su)).extract 0 l
def halfN (h : Nat) (ins : Bool) : Nat := if ins = true then 1 - h else h
def allN (su : List ByteArray) (h l : Nat) (s : ByteArray) (ins : Bool) : ByteArray := if ins = true then s else textN su h l ++ s
def movesN (su : List ByteArray) (q h l : Nat) (s : ByteArray) (ins : Bool) : List S24 :=
  mvU su (allN su h l s ins) (((allN su h l s ins).size : Int) - (s.size : Int)) (2 + halfN h ins * wdN su) (wdN su) ++
    [⟨false, (((q + 1) % 2 : Nat) : Int), blank⟩, ⟨true, 0, ⟨#[]⟩⟩, ⟨false, (((q + 1) % 2 : Nat) : Int), headP (q + 1) (halfN h ins) (allN su h l s ins).size⟩, ⟨true, 0, ⟨#[]⟩⟩]
def nextB (su : List ByteArray) (so : List S24) (q h l : Int) (s : ByteArray) : Bool := goodB su so q h l && decide (q + 1 ≤ 1099511627776) && decide (s.size ≤ 1000)
def fitsB (su : List ByteArray) (h l : Nat) (s : ByteArray) (ins : Bool) : Bool := decide ((allN su h l s ins).size ≤ 64 * wdN su)
def vault_Right.f (l0_0 : List ByteArray) (l0_1 : List (S24)) (a0_2 : Int) (a0_3 : Int) (a0_4 : Int) : Option (Bool) := if goodB l0_0 l0_1 a0_2 a0_3 a0_4 = true then some true else none
def vault_Room.f (l0_0 : List ByteArray) (l0_1 : List (S24)) (a0_2 : Int) (a0_3 : Int) (a0_4 : Int) : Option (Int) := if goodB l0_0 l0_1 a0_2 a0_3 a0_4 = true then some (64 * (wdN l0_0 : Int)) else none
def vault_Moves.f (l0_0 : List ByteArray) (l0_1 : List (S24)) (a0_2 : Int) (a0_3 : Int) (a0_4 : Int) (a1 : ByteArray) (a2 : Bool) : Option ((List (S24)) × Int) :=
  if nextB l0_0 l0_1 a0_2 a0_3 a0_4 a1 = true then (if fitsB l0_0 a0_3.toNat a0_4.toNat a1 a2 = true then some (movesN l0_0 a0_2.toNat a0_3.toNat a0_4.toNat a1 a2, 0) else some ([], 2)) else none
def vault_Keep.f (l0_0 : List ByteArray) (l0_1 : List (S24)) (a0_2 : Int) (a0_3 : Int) (a0_4 : Int) (a1 : ByteArray) (a2 : Bool) : Option (List ByteArray × (List (S24)) × Int × Int × Int × Int) :=
  if nextB l0_0 l0_1 a0_2 a0_3 a0_4 a1 = true then
    (if fitsB l0_0 a0_3.toNat a0_4.toNat a1 a2 = true then some ((doB l0_0 [] (movesN l0_0 a0_2.toNat a0_3.toNat a0_4.toNat a1 a2)).1, (doB l0_0 [] (movesN l0_0 a0_2.toNat a0_3.toNat a0_4.toNat a1 a2)).2.1, a0_2 + 1, (halfN a0_3.toNat a2 : Int), ((allN l0_0 a0_3.toNat a0_4.toNat a1 a2).size : Int), 0) else some (l0_0, [], a0_2, a0_3, a0_4, 2))
  else none
def openB (su : List ByteArray) (so : List S24) : Bool :=
  so.isEmpty && rightB su [] && decide (4 ≤ su.length) && smallB (blkN su 0) && smallB (blkN su 1) && (!(hdI (wdN su) (blkN su 0)).is || decide (nB (blkN su 0) 0 8 % 2 = 0)) && (!(hdI (wdN su) (blkN su 1)).is || decide (nB (blkN su 1) 0 8 % 2 = 1))
def bestN (su : List ByteArray) : HdI := bestI (fun i => hdI (wdN su) (blkN su i)) 2
def vault_Open.f (l0_0 : List ByteArray) (l0_1 : List (S24)) : Option (List ByteArray × (List (S24)) × Int × Int × Int × ByteArray × Int) :=
  if openB l0_0 l0_1 = true then (if (bestN l0_0).q < 0 then some (l0_0, [], 0, 0, 0, ⟨#[]⟩, 25) else some (l0_0, [], (bestN l0_0).q, (bestN l0_0).h, (bestN l0_0).l, textN l0_0 (bestN l0_0).h.toNat (bestN l0_0).l.toNat, 0)) else none
end Go.Proofs.Ytcfinlmocgbnbaa.Pr
end
section
set_option linter.unusedVariables false
set_option linter.unusedSimpArgs false
namespace Go.Proofs.Ytcfinlmocgbnbaa.Pr
open Go.RowKit Go.Proofs.YtcfinlmocgbnbaaW.PrintWords Go.Proofs.YtcfinlmocgbnbaaW.PrintLast Go.Proofs.YtcfinlmocgbnbaaW.PrintMore
def I64 (a : Int) : Prop := -9223372036854775808 ≤ a ∧ a ≤ 9223372036854775807
theorem i64_of {a : Int} (h : (Lit.int .i64 a).wf = true) : I64 a := by
  have e0 : IntKind.i64.min = -9223372036854775808 := rfl
  have e1 : IntKind.i64.max = 9223372036854775807 := rfl
  simp only [Lit.wf, Bool.and_eq_true, decide_eq_true_eq] at h
  unfold I64
  omega
theorem strOf_size (xs : List Int) : (strOfNums xs).size = xs.length := by
  simp [strOfNums, ByteArray.size]
structure Good (n : Nat) (m : S24) : Prop where
  syn : m.f0 = true → m.f1 = 0 ∧ m.f2 = ⟨#[]⟩
  put : m.f0 = false → 0 ≤ m.f1 ∧ m.f1 < n ∧ m.f2.size = 64
theorem good_odd {n : Nat} {m : S24} (h : Good n m) : oddB n m = false := by
  obtain ⟨f0, f1, f2⟩ := m
  unfold oddB
  cases f0
  · have := h.put rfl
    simp only [Bool.false_eq_true, if_false, Bool.or_eq_false_iff, decide_eq_false_iff_not]
    dsimp only at this
    omega
  · obtain ⟨rfl, rfl⟩ := h.syn rfl
    rfl
structure Dsk (n : Nat) (su : List ByteArray) (so : List S24) : Prop extends DoInv n su so where
  nos : ∀ m ∈ so, m.f0 = false
theorem Dsk.right {n : Nat} {su : List ByteArray} {so : List S24} (h : Dsk n su so) (h1 : 1 ≤ n) (h2 : n ≤ 400) : rightB su so = true := right_iff.2 ⟨by rw [h.len]; exact h1, by rw [h.len]; exact h2, h.few, h.fits, h.nos⟩
theorem dsk_new (n : Nat) : Dsk n (List.replicate n blank) [] := ⟨⟨by simp, by simp, ⟨(fun m hm => by cases hm), (fun m hm => by cases hm), (fun s hs => by rw [(List.mem_replicate.1 hs).2]; rfl)⟩⟩, fun m hm => by cases hm⟩
theorem dsk_fall {n : Nat} {su : List ByteArray} {so : List S24} (h : Dsk n su so) {cut : Nat → Int} (hc : ∀ j, 0 ≤ cut j ∧ cut j ≤ 64) : Dsk n (fall su so cut 0) [] :=
  ⟨⟨by rw [fall_len]; exact h.len, by simp, ⟨(fun m hm => by cases hm), (fun m hm => by cases hm), fall_sur so su cut 0 h.fits hc⟩⟩, fun m hm => by cases hm⟩
theorem dsk_app {n : Nat} {su : List ByteArray} {so : List S24} {m : S24} (h : Dsk n su so) (hm : Good n m) (h0 : m.f0 = false) (h1 : so.length < 3000) : Dsk n su (so ++ [m]) :=
  ⟨inv_app h.toDoInv (good_odd hm) h0 (by omega), fun x hx => by
    rcases List.mem_append.1 hx with hx | hx
    · exact h.nos x hx
    · obtain rfl : x = m := by simpa using hx
      exact h0⟩
def runL : List ByteArray → List S24 → List S24 → List ByteArray × List S24
  | su, so, [] => (su, so)
  | su, so, m :: l => if m.f0 = true then runL (fall su so (fun _ => 64) 0) [] l else runL su (so ++ [m]) l
theorem doL_run {n : Nat} {su0 : List ByteArray} {so0 : List S24} : ∀ (l : List S24) (su : List ByteArray) (so : List S24), Dsk n su so → (∀ m ∈ l, Good n m) → so.length + l.length ≤ 3000 →
    doL su0 so0 su so l = ((runL su so l).1, (runL su so l).2, 0) ∧ Dsk n (runL su so l).1 (runL su so l).2 ∧ (runL su so l).2.length ≤ so.length + l.length
  | [], su, so, h, hg, hr => ⟨rfl, h, by simp [runL]⟩
  | m :: l, su, so, h, hg, hr => by
    simp only [List.length_cons] at hr
    have hm := hg m (by simp)
    have hl := fun x hx => hg x (List.mem_cons_of_mem m hx)
    cases hs : m.f0
    · have hd := dsk_app h hm hs (by omega)
      obtain ⟨e, d, z⟩ := doL_run l su (so ++ [m]) hd hl (by simp; omega)
      simp only [doL, runL, hs, Bool.false_eq_true, if_false]
      rw [if_neg (by omega)]
      exact ⟨e, d, by simp at z ⊢; omega⟩
    · have hd := dsk_fall h (cut := fun _ => 64) (fun _ => by omega)
      obtain ⟨e, d, z⟩ := doL_run l _ [] hd hl (by simp; omega)
      simp only [doL, runL, hs, if_true]
      exact ⟨e, d, by simp at z ⊢; omega⟩
theorem do_ok {n : Nat} {su : List ByteArray} {so : List S24} {l : List S24} (h : Dsk n su so) (h1 : 1 ≤ n) (h2 : n ≤ 400) (hg : ∀ m ∈ l, Good n m) (hr : so.length + l.length ≤ 3000) :
    disk_Do.f su so l = some ((runL su so l).1, (runL su so l).2, 0) ∧ Dsk n (runL su so l).1 (runL su so l).2 ∧ (runL su so l).2.length ≤ so.length + l.length := by
  obtain ⟨e, d, z⟩ := doL_run (su0 := su) (so0 := so) l su so h hg hr
  have hany : l.any (oddB su.length) = false := by
    rw [List.any_eq_false]
    intro m hm
    rw [h.len]
    simpa using good_odd (hg m hm)
  have hlen := h.len
  have hfew := h.few
  refine ⟨?_, d, z⟩
  unfold disk_Do.f doB
  rw [if_pos (by omega), if_pos ⟨h.right h1 h2, hany⟩, e]
theorem same_l1 (su : List ByteArray) (so : List S24) : ∀ (d i k : Nat), i + d = so.length → d < k → so.length ≤ 100000 → columbariumref14_Same.l1 k i su so su so = some true
  | 0, i, k, h, hk, hz => by
    obtain ⟨k, rfl⟩ : ∃ m, k = m + 1 := ⟨k - 1, by omega⟩
    simp only [columbariumref14_Same.l1]
    rw [if_neg (by omega)]
  | d + 1, i, k, h, hk, hz => by
    obtain ⟨k, rfl⟩ : ∃ m, k = m + 1 := ⟨k - 1, by omega⟩
    simp only [columbariumref14_Same.l1]
    rw [if_pos (by omega), if_pos (by omega), if_pos (by omega), if_neg (by simp), show wrap64 ((i : Int) + 1) = ((i + 1 : Nat) : Int) from by unfold wrap64; omega]
    exact same_l1 su so d (i + 1) k (by omega) (by omega) hz
theorem same_l0 (su : List ByteArray) (so : List S24) : ∀ (d i k : Nat), i + d = su.length → d + so.length + 1 < k → su.length ≤ 100000 → so.length ≤ 100000 → columbariumref14_Same.l0 k i su so su so = some true
  | 0, i, k, h, hk, hz, hz2 => by
    obtain ⟨k, rfl⟩ : ∃ m, k = m + 1 := ⟨k - 1, by omega⟩
    simp only [columbariumref14_Same.l0]
    rw [if_neg (by omega)]
    exact same_l1 su so so.length 0 k (by omega) (by omega) hz2
  | d + 1, i, k, h, hk, hz, hz2 => by
    obtain ⟨k, rfl⟩ : ∃ m, k = m + 1 := ⟨k - 1, by omega⟩
    simp only [columbariumref14_Same.l0]
    rw [if_pos (by omega), if_pos (by omega), if_pos (by omega), if_pos trivial, show wrap64 ((i : Int) + 1) = ((i + 1 : Nat) : Int) from by unfold wrap64; omega]
    exact same_l0 su so d (i + 1) k (by omega) (by omega) hz hz2
theorem same_ok {n : Nat} {su : List ByteArray} {so : List S24} (h : Dsk n su so) (h2 : n ≤ 400) {k : Nat} (hk : 4000 < k) : columbariumref14_Same.f k su so su so = some true := by
  have hlen := h.len
  have hfew := h.few
  obtain ⟨k, rfl⟩ : ∃ m, k = m + 1 := ⟨k - 1, by omega⟩
  unfold columbariumref14_Same.f
  rw [if_pos rfl]
  simp only [columbariumref14_Same.j0]
  rw [if_neg (by simp)]
  exact same_l0 su so su.length 0 k (by omega) (by omega) (by omega) (by omega)
theorem sync_good (n : Nat) : Good n ⟨true, 0, ⟨#[]⟩⟩ := ⟨fun _ => ⟨rfl, rfl⟩, fun h => by cases h⟩
end Go.Proofs.Ytcfinlmocgbnbaa.Pr
end
section
namespace Go.Proofs.Ytcfinlmocgbnbaa.Pr
open Go.RowKit Go.Shelf Go.Proofs.Ytcfinlmocgbnbaa.XB Go.Proofs.YtcfinlmocgbnbaaW.PrintWords Go.Proofs.YtcfinlmocgbnbaaW.PrintMore
set_option linter.unusedVariables false
set_option linter.unusedSimpArgs false
theorem beI_len (n : Nat) : ∀ k, (beI n k).length = k
  | 0 => rfl
  | k + 1 => by simp only [beI, List.length_cons, beI_len n k]
theorem beI_range (n : Nat) : ∀ k, ∀ x ∈ beI n k, 0 ≤ x ∧ x ≤ 255
  | 0 => by intro x hx; cases hx
  | k + 1 => by
    intro x hx
    rcases List.mem_cons.1 hx with rfl | hx
    · omega
    · exact beI_range n k x hx
theorem shr_byte (n k : Nat) (hk : k ≤ 7) : shr .i64 (n : Int) (wrap64 (8 * (k : Int))) % 256 = ((n / 256 ^ k % 256 : Nat) : Int) := by
  have e : wrap64 (8 * (k : Int)) = ((8 * k : Nat) : Int) := by unfold wrap64; omega
  rw [e]
  unfold shr
  have hb : IntKind.i64.bits = 64 := rfl
  rw [Int.toNat_natCast, hb, Nat.min_eq_left (by omega), show (256 : Nat) ^ k = 2 ^ (8 * k) by rw [Nat.pow_mul]]
  rw [Int.natCast_emod, Int.natCast_ediv, Int.natCast_pow]
  rfl
theorem put_l0 (n : Nat) : ∀ (k K : Nat) (xs : List Int), k ≤ 8 → k < K → xs.length + k ≤ 1000 → vault_put_int.l0 K xs (n : Int) ((k : Int) - 1) = some (xs ++ beI n k)
  | 0, K, xs, hk, hK, hx => by
    obtain ⟨K, rfl⟩ : ∃ m, K = m + 1 := ⟨K - 1, by omega⟩
    simp only [vault_put_int.l0, beI]
    rw [if_neg (by omega)]
    simp
  | k + 1, K, xs, hk, hK, hx => by
    obtain ⟨K, rfl⟩ : ∃ m, K = m + 1 := ⟨K - 1, by omega⟩
    simp only [vault_put_int.l0, beI]
    rw [show ((k + 1 : Nat) : Int) - 1 = (k : Int) by omega, if_pos (by omega), if_pos (by unfold wrap64; omega), if_pos (by omega), shr_byte n k (by omega), show wrap64 ((k : Int) - 1) = (k : Int) - 1 by unfold wrap64; omega, put_l0 n k K _ (by omega) (by omega) (by simp; omega)]
    simp
theorem put_eq (n k K : Nat) (xs : List Int) (hk : k ≤ 8) (hK : k < K) (hx : xs.length + k ≤ 1000) : vault_put_int.f K xs (n : Int) (k : Int) = some (xs ++ beI n k) := by
  unfold vault_put_int.f
  rw [show wrap64 ((k : Int) - 1) = (k : Int) - 1 by unfold wrap64; omega]
  exact put_l0 n k K xs hk hK hx
theorem pI_len (q h l : Nat) : (pI q h l).length = 16 := by simp [pI, beI_len]
theorem pI_range (q h l : Nat) : ∀ x ∈ pI q h l, 0 ≤ x ∧ x ≤ 255 := by
  intro x hx
  simp only [pI, List.mem_append] at hx
  rcases hx with (hx | hx) | hx <;> exact beI_range _ _ x hx
set_option maxRecDepth 10000 in
theorem xor_255 : ∀ x : Fin 256, Go.bits .xor .u8 ((x.val : Nat) : Int) 255 = 255 - (x.val : Int) := by decide +kernel
theorem xor_byte {x : Int} (h : 0 ≤ x ∧ x ≤ 255) : Go.bits .xor .u8 x 255 = 255 - x := by
  have := xor_255 ⟨x.toNat, by omega⟩
  simp only [Int.toNat_of_nonneg h.1] at this
  exact this
theorem rd_get {xs : List Int} {i : Nat} (h : i < xs.length) : rd xs (i : Int) = xs[i] := by unfold rd; simp [h]
theorem head_l0 (p : List Int) (hp : p.length = 16) (hr : ∀ x ∈ p, 0 ≤ x ∧ x ≤ 255) : ∀ (d i K : Nat), i + d = 16 → d < K → vault_book_head.l0 K (p ++ (p.take i).map (fun x => 255 - x)) p (16 : Int) (i : Int) = some (strOfNums (p ++ p.map (fun x => 255 - x) ++ List.replicate 32 0))
  | 0, i, K, h, hK => by
    obtain ⟨K, rfl⟩ : ∃ m, K = m + 1 := ⟨K - 1, by omega⟩
    obtain rfl : i = 16 := by omega
    simp only [vault_book_head.l0]
    have hl : (p ++ (p.take 16).map (fun x => 255 - x)).length = 32 := by simp [hp]
    rw [if_neg (by omega), hl, show wrap64 (64 - ((32 : Nat) : Int)) = 32 by unfold wrap64; omega, if_pos (by omega), if_pos (by omega), List.take_of_length_le (by omega)]
    rfl
  | d + 1, i, K, h, hK => by
    obtain ⟨K, rfl⟩ : ∃ m, K = m + 1 := ⟨K - 1, by omega⟩
    have hi : i < p.length := by omega
    simp only [vault_book_head.l0]
    rw [if_pos (by omega), if_pos (by omega), if_pos (by omega), if_pos (by simp; omega), rd_get hi, xor_byte (hr _ (List.getElem_mem hi)), show wrap64 ((i : Int) + 1) = ((i + 1 : Nat) : Int) by unfold wrap64; omega]
    have e : p ++ (p.take i).map (fun x => 255 - x) ++ [255 - p[i]] = p ++ (p.take (i + 1)).map (fun x => 255 - x) := by
      rw [List.take_succ_eq_append_getElem hi, List.map_append, List.append_assoc]
      rfl
    rw [e]
    exact head_l0 p hp hr d (i + 1) K (by omega) (by omega)
theorem head_eq (su : List ByteArray) (so : List S24) (q h l : Nat) : vault_book_head.f 30 su so (q : Int) (h : Int) (l : Int) = some (headP q h l) := by
  unfold vault_book_head.f
  have e1 := put_eq q 8 30 [] (by omega) (by omega) (by simp)
  have e2 := put_eq h 4 30 (beI q 8) (by omega) (by omega) (by rw [beI_len]; omega)
  have e3 := put_eq l 4 30 (beI q 8 ++ beI h 4) (by omega) (by omega) (by simp [beI_len])
  simp only [Int.cast_ofNat_Int, List.nil_append] at e1 e2 e3
  rw [e1, Option.bind_some, e2, Option.bind_some, e3, Option.bind_some]
  show (if 16 ≤ ((pI q h l).length : Int) then _ else _) = _
  have hl := pI_len q h l
  rw [if_pos (by omega), Option.bind_some]
  have e4 : (beI q 8 ++ beI h 4 ++ beI l 4).take 16 = pI q h l := List.take_of_length_le (by rw [show beI q 8 ++ beI h 4 ++ beI l 4 = pI q h l from rfl]; omega)
  rw [e4, hl]
  have := head_l0 (pI q h l) hl (pI_range q h l) 16 0 30 (by omega) (by omega)
  rw [List.take_zero, List.map_nil, List.append_nil] at this
  exact this
theorem wide_eq (su : List ByteArray) (so : List S24) (a b c : Int) (h1 : 2 ≤ su.length) (h2 : su.length ≤ 1000) : vault_book_wide.f su so a b c = some (wdN su : Int) := by
  unfold vault_book_wide.f wdN
  have e : wrap64 ((su.length : Int) - 2) = ((su.length - 2 : Nat) : Int) := by unfold wrap64; omega
  rw [e, Int.tdiv_eq_ediv_of_nonneg (by omega)]
  congr 1
  unfold wrap64
  omega
theorem room_eq (su : List ByteArray) (so : List S24) (a b c : Int) (h1 : 2 ≤ su.length) (h2 : su.length ≤ 1000) : vault_book_room.f su so a b c = some (64 * (wdN su : Int)) := by
  unfold vault_book_room.f
  rw [wide_eq su so a b c h1 h2, Option.bind_some]
  have : wdN su ≤ 500 := by unfold wdN; omega
  congr 1
  unfold wrap64
  omega
theorem take_eq {g : ByteArray} {a b : Nat} (hs : g.size ≤ 1000) (h : nB g a b < 9223372036854775808) : vault_take_int.f (g.extract a b) = some (nB g a b : Int) := by
  unfold vault_take_int.f
  rw [if_pos ⟨h, by rw [ByteArray.size_extract]; omega⟩]
  rfl
end Go.Proofs.Ytcfinlmocgbnbaa.Pr
end
section
namespace Go.Proofs.Ytcfinlmocgbnbaa.Pr
open Go.RowKit Go.Shelf Go.Proofs.Ytcfinlmocgbnbaa.XB Go.Proofs.YtcfinlmocgbnbaaW.PrintWords Go.Proofs.YtcfinlmocgbnbaaW.PrintMore
set_option linter.unusedVariables false
set_option linter.unusedSimpArgs false
theorem bt_str {xs : List Int} (hr : ∀ x ∈ xs, 0 ≤ x ∧ x ≤ 255) {i : Nat} (hi : i < xs.length) : bt (strOfNums xs) (i : Int) = xs[i] := by
  unfold bt
  have hs : (strOfNums xs).size = xs.length := strOf_size xs
  rw [dif_pos (by simpa [hs] using hi)]
  have := hr _ (List.getElem_mem hi)
  have e : (strOfNums xs)[(i : Int).toNat]'(by simpa [hs] using hi) = UInt8.ofNat (xs[i]).toNat := by
    simp [strOfNums, ByteArray.getElem_eq_getElem_data]
  rw [e, UInt8.toNat_ofNat']
  omega
theorem headI_range (q h l : Nat) : ∀ x ∈ pI q h l ++ (pI q h l).map (fun x => 255 - x) ++ List.replicate 32 0, 0 ≤ x ∧ x ≤ 255 := by
  intro x hx
  simp only [List.mem_append, List.mem_map, List.mem_replicate] at hx
  rcases hx with (hx | ⟨y, hy, rfl⟩) | ⟨_, rfl⟩
  · exact pI_range q h l x hx
  · have := pI_range q h l y hy; omega
  · omega
theorem headI_len (q h l : Nat) : (pI q h l ++ (pI q h l).map (fun x => 255 - x) ++ List.replicate 32 0).length = 64 := by simp [pI_len]
theorem headP_size (q h l : Nat) : (headP q h l).size = 64 := by unfold headP; rw [strOf_size, headI_len]
theorem bt_head1 (q h l : Nat) {i : Nat} (hi : i < 16) : bt (headP q h l) (i : Int) = (pI q h l)[i]'(by rw [pI_len]; exact hi) := by
  unfold headP
  rw [bt_str (headI_range q h l) (by rw [headI_len]; omega), List.getElem_append_left (by simp [pI_len]; omega), List.getElem_append_left (by simp [pI_len]; omega)]
theorem bt_head2 (q h l : Nat) {i : Nat} (hi : i < 16) : bt (headP q h l) ((16 + i : Nat) : Int) = 255 - bt (headP q h l) (i : Int) := by
  rw [bt_head1 q h l hi]
  unfold headP
  rw [bt_str (headI_range q h l) (by rw [headI_len]; omega), List.getElem_append_left (by simp [pI_len]; omega), List.getElem_append_right (by simp [pI_len]), List.getElem_map]
  simp [pI_len]
theorem bt_head3 (q h l : Nat) {i : Nat} (h1 : 32 ≤ i) (h2 : i < 64) : bt (headP q h l) (i : Int) = 0 := by
  unfold headP
  rw [bt_str (headI_range q h l) (by rw [headI_len]; omega), List.getElem_append_right (by simp [pI_len]; omega), List.getElem_replicate]
theorem bt_ext {a b : ByteArray} {n : Nat} (ha : a.size = n) (hb : b.size = n) (h : ∀ i : Nat, i < n → bt a i = bt b i) : a = b := by
  apply ByteArray.ext
  apply Array.ext
  · show a.size = b.size
    rw [ha, hb]
  · intro i h1 h2
    have h3 : i < a.size := h1
    have h4 : i < b.size := h2
    have := h i (by omega)
    unfold bt at this
    rw [dif_pos (by simpa using h3), dif_pos (by simpa using h4)] at this
    simp only [Int.toNat_natCast] at this
    have h5 : (a[i]'h3).toNat = (b[i]'h4).toNat := by omega
    exact UInt8.toNat_inj.1 h5
def Form (g H : ByteArray) : Prop := ∀ i : Nat, i < 64 → bt g i = 0 ∨ bt g i = bt H i
theorem head_unique {g : ByteArray} {a b c q h l : Nat} (he : g = headP a b c) (F : Form g (headP q h l)) : g = headP q h l := by
  have hlow : ∀ i : Nat, i < 16 → bt g i = bt (headP q h l) i := by
    intro i hi
    have f1 := F i (by omega)
    have f2 := F (16 + i) (by omega)
    rw [bt_head2 q h l hi] at f2
    have e2 : bt g ((16 + i : Nat) : Int) = 255 - bt g (i : Int) := by rw [he]; exact bt_head2 a b c hi
    rw [e2] at f2
    have r1 := bt_range g (i : Int)
    have r2 := bt_range (headP q h l) (i : Int)
    omega
  refine bt_ext (n := 64) (by rw [he]; exact headP_size a b c) (headP_size q h l) (fun i hi => ?_)
  by_cases h1 : i < 16
  · exact hlow i h1
  · by_cases h2 : i < 32
    · obtain ⟨j, rfl⟩ : ∃ j, i = 16 + j := ⟨i - 16, by omega⟩
      rw [bt_head2 q h l (by omega), ← hlow j (by omega)]
      rw [he]
      exact bt_head2 a b c (by omega)
    · rw [bt_head3 q h l (by omega) hi, he]
      exact bt_head3 a b c (by omega) hi
theorem num_mono : ∀ (l l' : List UInt8) (n n' : Nat), l.length = l'.length → (∀ (i : Nat) (h1 : i < l.length) (h2 : i < l'.length), l[i].toNat ≤ l'[i].toNat) → n ≤ n' → num l n ≤ num l' n'
  | [], [], n, n', _, _, h => h
  | [], _ :: _, _, _, h, _, _ => by simp at h
  | _ :: _, [], _, _, h, _, _ => by simp at h
  | b :: l, b' :: l', n, n', hl, hb, h => by
    simp only [num]
    refine num_mono l l' _ _ (by simpa using hl) (fun i h1 h2 => by have := hb (i + 1) (by simp; omega) (by simp; omega); simpa using this) ?_
    have := hb 0 (by simp) (by simp)
    simp only [List.getElem_cons_zero] at this
    omega
theorem nB_mono {g H : ByteArray} (hg : g.size = 64) (hH : H.size = 64) (h : ∀ i : Nat, i < 64 → bt g i ≤ bt H i) (a b : Nat) (hb : b ≤ 64) : nB g a b ≤ nB H a b := by
  unfold nB
  have e : ∀ x : ByteArray, x.size = 64 → (x.extract a b).data.toList.length = b - a := fun x hx => by
    rw [Array.length_toList]; show (x.extract a b).size = _; rw [ByteArray.size_extract, hx]; omega
  refine num_mono _ _ _ _ (by rw [e g hg, e H hH]) (fun i h1 h2 => ?_) (Nat.le_refl _)
  rw [e g hg] at h1
  have h3 := h (a + i) (by omega)
  unfold bt at h3
  rw [dif_pos (by simp; omega), dif_pos (by simp; omega)] at h3
  simp only [Int.toNat_natCast] at h3
  have p : ∀ (x : ByteArray) (hx : x.size = 64) (hh : i < (x.extract a b).data.toList.length), (x.extract a b).data.toList[i] = x[a + i]'(by omega) := fun x hx hh => by
    simp [ByteArray.getElem_eq_getElem_data]
  rw [p g hg, p H hH]
  omega
theorem num_be (m : Nat) : ∀ (k n : Nat), num ((beI m k).map fun x => UInt8.ofNat x.toNat) n = n * 256 ^ k + m % 256 ^ k
  | 0, n => by simp [beI, num, Nat.mod_one]
  | k + 1, n => by
    simp only [beI, List.map_cons, num]
    rw [num_be m k, Int.toNat_natCast, UInt8.toNat_ofNat', Nat.mod_mod, Nat.pow_succ, Nat.mod_mul]
    generalize m / 256 ^ k % 256 = d
    generalize 256 ^ k = e
    generalize m % e = r
    grind
theorem nB_head (q h l : Nat) : nB (headP q h l) 0 8 = q % 256 ^ 8 ∧ nB (headP q h l) 8 12 = h % 256 ^ 4 ∧ nB (headP q h l) 12 16 = l % 256 ^ 4 := by
  have key : ∀ (a b : Nat) (xs ys zs : List Int), xs.length = a → xs.length + ys.length = b → pI q h l ++ (pI q h l).map (fun x => 255 - x) ++ List.replicate 32 0 = xs ++ ys ++ zs → ((headP q h l).extract a b).data.toList = ys.map fun x => UInt8.ofNat x.toNat := by
    intro a b xs ys zs hx hy he
    unfold headP
    rw [he]
    subst hx
    subst hy
    simp [strOfNums, ByteArray.data_extract]
  have l8 := beI_len q 8
  have l4 := beI_len h 4
  have l4' := beI_len l 4
  refine ⟨?_, ?_, ?_⟩ <;> unfold nB
  · rw [key 0 8 [] (beI q 8) (beI h 4 ++ beI l 4 ++ (pI q h l).map (fun x => 255 - x) ++ List.replicate 32 0) rfl (by simp [l8]) (by simp [pI]), num_be]
    simp
  · rw [key 8 12 (beI q 8) (beI h 4) (beI l 4 ++ (pI q h l).map (fun x => 255 - x) ++ List.replicate 32 0) l8 (by simp [l8, l4]) (by simp [pI]), num_be]
    simp
  · rw [key 12 16 (beI q 8 ++ beI h 4) (beI l 4) ((pI q h l).map (fun x => 255 - x) ++ List.replicate 32 0) (by simp [l8, l4]) (by simp [l8, l4, l4']) (by simp [pI]), num_be]
    simp
structure HOk (wd q h l : Nat) : Prop where
  q : q ≤ 1099511627776
  h : h ≤ 1
  l : l ≤ 64 * wd
theorem form_le {g : ByteArray} {q h l : Nat} (F : Form g (headP q h l)) : ∀ i : Nat, i < 64 → bt g i ≤ bt (headP q h l) i := fun i hi => by
  have := F i hi
  have := bt_range (headP q h l) i
  omega
theorem form_small {g : ByteArray} {wd q h l : Nat} (hg : g.size = 64) (F : Form g (headP q h l)) (k : HOk wd q h l) : smallB g = true := by
  unfold smallB
  have h1 := nB_mono hg (headP_size q h l) (form_le F) 0 8 (by omega)
  rw [(nB_head q h l).1] at h1
  have h2 := k.q
  have h3 : q % 256 ^ 8 ≤ q := Nat.mod_le _ _
  exact decide_eq_true (by omega)
theorem head_reads {wd q h l : Nat} (hw : wd ≤ 1000) (k : HOk wd q h l) : hdI wd (headP q h l) = ⟨true, (q : Int), (h : Int), (l : Int)⟩ := by
  obtain ⟨e1, e2, e3⟩ := nB_head q h l
  have h1 := k.q
  have h2 := k.h
  have h3 := k.l
  rw [Nat.mod_eq_of_lt (by omega)] at e1 e2 e3
  unfold hdI
  rw [e1, e2, e3]
  simp [h1, h3]
  omega
theorem form_reads {g : ByteArray} {wd q h l : Nat} (hw : wd ≤ 1000) (F : Form g (headP q h l)) (k : HOk wd q h l) (hi : (hdI wd g).is = true) : g = headP q h l := by
  unfold hdI at hi
  simp only [Bool.and_eq_true, decide_eq_true_eq] at hi
  exact head_unique hi.2.symm F
end Go.Proofs.Ytcfinlmocgbnbaa.Pr
end
section
namespace Go.Proofs.Ytcfinlmocgbnbaa.Pr
open Go.RowKit Go.Shelf Go.Proofs.Ytcfinlmocgbnbaa.XB Go.Proofs.YtcfinlmocgbnbaaW.PrintWords
set_option linter.unusedVariables false
set_option linter.unusedSimpArgs false
structure GS (su : List ByteArray) (q h l : Nat) : Prop where
  r : rightB su [] = true
  n1 : 4 ≤ su.length
  n2 : su.length ≤ 400
  sur : ∀ s ∈ su, s.size = 64
  k : HOk (wdN su) q h l
  this : blkN su (q % 2) = headP q h l
  small : smallB (blkN su (1 - q % 2)) = true
  less : (hdI (wdN su) (blkN su (1 - q % 2))).is = true → (hdI (wdN su) (blkN su (1 - q % 2))).q < q
theorem good_nat {su : List ByteArray} {so : List S24} {a b c : Int} (h : goodB su so a b c = true) : ∃ q h l : Nat, a = q ∧ b = h ∧ c = l := by
  simp only [goodB, Bool.and_eq_true, decide_eq_true_eq] at h
  exact ⟨a.toNat, b.toNat, c.toNat, by omega, by omega, by omega⟩
theorem good_iff {su : List ByteArray} {so : List S24} {q h l : Nat} : goodB su so (q : Int) (h : Int) (l : Int) = true ↔ so = [] ∧ GS su q h l := by
  simp only [goodB, Bool.and_eq_true, decide_eq_true_eq, Int.toNat_natCast, List.isEmpty_iff, Bool.or_eq_true, Bool.not_eq_true']
  constructor
  · rintro ⟨⟨⟨⟨⟨⟨e0, hr⟩, h4⟩, hn⟩, ht⟩, hs⟩, hl⟩
    have R := right_iff.1 hr
    refine ⟨e0, hr, h4, R.most, R.fits.sur, ⟨by omega, by omega, by omega⟩, ht, hs, fun hi => ?_⟩
    rcases hl with hl | hl
    · rw [hl] at hi; cases hi
    · exact hl
  · rintro ⟨e0, G⟩
    have k1 := G.k.q
    have k2 := G.k.h
    have k3 := G.k.l
    refine ⟨⟨⟨⟨⟨⟨e0, G.r⟩, G.n1⟩, by omega⟩, G.this⟩, G.small⟩, ?_⟩
    cases hi : (hdI (wdN su) (blkN su (1 - q % 2))).is
    · exact .inl rfl
    · exact .inr (G.less hi)
theorem num_lt : ∀ (l : List UInt8) (n : Nat), num l n < (n + 1) * 256 ^ l.length
  | [], n => by simp [num]
  | b :: l, n => by
    simp only [num, List.length_cons]
    have h1 := num_lt l (256 * n + b.toNat)
    have h2 : b.toNat < 256 := b.toNat_lt
    have h3 : (256 * n + b.toNat + 1) * 256 ^ l.length ≤ ((n + 1) * 256) * 256 ^ l.length := Nat.mul_le_mul_right _ (by omega)
    have h4 : ((n + 1) * 256) * 256 ^ l.length = (n + 1) * 256 ^ (l.length + 1) := by rw [Nat.pow_succ, Nat.mul_assoc, Nat.mul_comm 256]
    omega
theorem nB_lt (g : ByteArray) (a : Nat) : nB g a (a + 4) < 4294967296 := by
  unfold nB
  have h := num_lt (g.extract a (a + 4)).data.toList 0
  have hl : (g.extract a (a + 4)).data.toList.length ≤ 4 := by rw [Array.length_toList]; show (g.extract a (a + 4)).size ≤ 4; rw [ByteArray.size_extract]; omega
  have h2 : 256 ^ (g.extract a (a + 4)).data.toList.length ≤ 256 ^ 4 := Nat.pow_le_pow_right (by omega) hl
  omega
theorem toList_eq_iff (a b : ByteArray) : decide (a.toList = b.toList) = decide (a = b) := by
  have := str_eq a b
  rw [← this]
  by_cases h : a.toList = b.toList <;> simp [h]
theorem reads_is (wd : Nat) (g : ByteArray) : (decide ((nB g 0 8 : Int) ≤ 1099511627776) && decide ((nB g 8 12 : Int) < 2) && decide ((nB g 12 16 : Int) ≤ 64 * (wd : Int)) && decide ((headP (nB g 0 8) (nB g 8 12) (nB g 12 16)).toList = g.toList)) = (hdI wd g).is := by
  unfold hdI
  rw [toList_eq_iff, show decide ((nB g 0 8 : Int) ≤ 1099511627776) = decide (nB g 0 8 ≤ 1099511627776) from decide_eq_decide.2 (by omega), show decide ((nB g 8 12 : Int) < 2) = decide (nB g 8 12 < 2) from decide_eq_decide.2 (by omega), show decide ((nB g 12 16 : Int) ≤ 64 * (wd : Int)) = decide (nB g 12 16 ≤ 64 * wd) from decide_eq_decide.2 (by omega)]
theorem blk_size {su : List ByteArray} (h : ∀ s ∈ su, s.size = 64) {i : Nat} (hi : i < su.length) : (blkN su i).size = 64 := rdS_size h (by omega) (by omega)
theorem may_ok {su : List ByteArray} (hr : rightB su [] = true) (h4 : 4 ≤ su.length) : vault_may.f su [] = some true := by
  unfold vault_may.f disk_Right.f
  rw [hr, Option.bind_some, if_pos rfl, show decide ((su.length : Int) ≥ 4) = true from decide_eq_true (by omega)]
section
variable {su : List ByteArray} {q h l : Nat} {A0 A1 : Option Addr} {c0 c1 : Nat} (w : World)
theorem right_calls (G : GS su q h l) (hsu : Kd.C Kd.string w A0 su.length su) (hc0 : su.length ≤ c0) (hso : Kd.C k24 w A1 0 ([] : List S24)) :
    Calls Try.prog 36 #[.agg #[.slice A0 su.length c0, .slice A1 0 c1, .int .i64 (q : Int), .int .i64 (h : Int), .int .i64 (l : Int)]] w fun e w' => e = .returned (.bool true) ∧ Below w.heap.size w w' := by
  have n1 := G.n1
  have n2 := G.n2
  have hsz0 := blk_size G.sur (i := q % 2) (by omega)
  have hsz1 := blk_size G.sur (i := 1 - q % 2) (by omega)
  have hk1 := G.k.q
  have hk2 := G.k.h
  have hk3 := G.k.l
  have hw : wdN su ≤ 200 := by unfold wdN; omega
  obtain ⟨e1, e2, e3⟩ := nB_head q h l
  rw [Nat.mod_eq_of_lt (by omega), ← G.this] at e1 e2 e3
  have hsm := G.small
  unfold smallB at hsm
  simp only [decide_eq_true_eq] at hsm
  have hrd := head_reads (wd := wdN su) (by omega) G.k
  have b2 : nB (blkN su (1 - q % 2)) 8 12 < 4294967296 := nB_lt _ 8
  have b3 : nB (blkN su (1 - q % 2)) 12 16 < 4294967296 := nB_lt _ 12
  refine vright_true 30 (s0 := blkN su (q % 2)) (s1 := blkN su (1 - q % 2)) (at_ := ((q % 2 : Nat) : Int)) (m1 := (nB (blkN su (1 - q % 2)) 0 8 : Int)) (m2 := (nB (blkN su (1 - q % 2)) 8 12 : Int)) (m3 := (nB (blkN su (1 - q % 2)) 12 16 : Int))
    w hsu hc0 hso (may_ok G.r G.n1) (by omega) (by omega) (by rw [Int.tmod_eq_emod_of_nonneg (by omega)]; omega) (by omega) (by omega) rfl (by unfold blkN; congr 1; omega) (by omega) (by omega)
    (by rw [take_eq (by omega) (by omega), e1]) (by rw [take_eq (by omega) (by omega), e2]) (by rw [take_eq (by omega) (by omega), e3]) (room_eq su [] _ _ _ (by omega) (by omega)) (head_eq su [] q h l)
    (take_eq (by omega) hsm) (take_eq (by omega) (by omega)) (take_eq (by omega) (by omega)) (room_eq su [] _ _ _ (by omega) (by omega)) (head_eq su [] _ _ _) (by omega) ?_ (hdI (wdN su) (blkN su (1 - q % 2))).is (reads_is _ _) (fun hi => G.less hi)
  have := reads_is (wdN su) (blkN su (q % 2))
  rw [e1, e2, e3, G.this, hrd] at this
  rw [G.this]
  exact this
end
theorem vault_Right.calls (A0_0 : Option Addr) (c0_0 : Nat) (l0_0 : List ByteArray) (A0_1 : Option Addr) (c0_1 : Nat) (l0_1 : List (S24)) (a0_2 : Int) (a0_3 : Int) (a0_4 : Int) (r : Bool) (w : World) (hr0_0 : Kd.C Kd.string w A0_0 l0_0.length l0_0) (hc0_0 : l0_0.length ≤ c0_0) (hr0_1 : Kd.C k24 w A0_1 l0_1.length l0_1) (hc0_1 : l0_1.length ≤ c0_1) (h : vault_Right.f l0_0 l0_1 a0_2 a0_3 a0_4 = some r) :
    Calls Try.prog 36 #[.agg #[.slice A0_0 l0_0.length c0_0, .slice A0_1 l0_1.length c0_1, .int .i64 a0_2, .int .i64 a0_3, .int .i64 a0_4]] w fun e w' => e = .returned (.bool r) ∧ Below w.heap.size w w' := by
  unfold vault_Right.f at h
  by_cases hg : goodB l0_0 l0_1 a0_2 a0_3 a0_4 = true
  case neg => rw [if_neg hg] at h; cases h
  rw [if_pos hg] at h
  obtain rfl := Option.some.inj h
  obtain ⟨q, hh, l, rfl, rfl, rfl⟩ := good_nat hg
  obtain ⟨rfl, G⟩ := good_iff.1 hg
  exact right_calls w G hr0_0 hc0_0 hr0_1
theorem vault_Room.calls (A0_0 : Option Addr) (c0_0 : Nat) (l0_0 : List ByteArray) (A0_1 : Option Addr) (c0_1 : Nat) (l0_1 : List (S24)) (a0_2 : Int) (a0_3 : Int) (a0_4 : Int) (r : Int) (w : World) (hr0_0 : Kd.C Kd.string w A0_0 l0_0.length l0_0) (hc0_0 : l0_0.length ≤ c0_0) (hr0_1 : Kd.C k24 w A0_1 l0_1.length l0_1) (hc0_1 : l0_1.length ≤ c0_1) (h : vault_Room.f l0_0 l0_1 a0_2 a0_3 a0_4 = some r) :
    Calls Try.prog 31 #[.agg #[.slice A0_0 l0_0.length c0_0, .slice A0_1 l0_1.length c0_1, .int .i64 a0_2, .int .i64 a0_3, .int .i64 a0_4]] w fun e w' => e = .returned (.int .i64 r) ∧ Below w.heap.size w w' := by
  unfold vault_Room.f at h
  by_cases hg : goodB l0_0 l0_1 a0_2 a0_3 a0_4 = true
  case neg => rw [if_neg hg] at h; cases h
  rw [if_pos hg] at h
  obtain rfl := Option.some.inj h
  obtain ⟨q, hh, l, rfl, rfl, rfl⟩ := good_nat hg
  obtain ⟨rfl, G⟩ := good_iff.1 hg
  have n1 := G.n1
  have n2 := G.n2
  exact vroom_true w hr0_0 hc0_0 hr0_1 (fun W hW => right_calls W G (Kd.C_below hr0_0 hW) hc0_0 (Kd.C_below hr0_1 hW)) (room_eq _ _ _ _ _ (by omega) (by omega))
section
variable {su : List ByteArray} {q h l : Nat} {A0 A1 : Option Addr} {c0 c1 : Nat} (w : World)
theorem text_size (G : GS su q h l) : (textN su h l).size = l := by
  have n1 := G.n1
  have h2 := G.k.h
  have h3 := G.k.l
  have hw : 2 + 2 * wdN su ≤ su.length := by unfold wdN; omega
  have hp : h * wdN su ≤ wdN su := Nat.le_trans (Nat.mul_le_mul_right _ h2) (by omega)
  unfold textN
  rw [ByteArray.size_extract, joinB_size G.sur _ _ (by omega)]
  omega
theorem text_calls {ln : Nat} (hr : rightB su [] = true) (n1 : 4 ≤ su.length) (hh : h ≤ 1) (hln : ln ≤ 64 * wdN su) (hsu : Kd.C Kd.string w A0 su.length su) (hc0 : su.length ≤ c0) (hso : Kd.C k24 w A1 0 ([] : List S24)) (sq : Int) :
    Calls Try.prog 61 #[.agg #[.slice A0 su.length c0, .slice A1 0 c1, .int .i64 sq, .int .i64 (h : Int), .int .i64 (ln : Int)]] w fun e w' => e = .returned (.string (textN su h ln)) ∧ Below w.heap.size w w' := by
  have R := right_iff.1 hr
  have n2 := R.most
  have hw : 2 + 2 * wdN su ≤ su.length := by unfold wdN; omega
  exact vtext_calls w hsu hc0 hso (wide_eq su [] _ _ _ (by omega) (by omega)) hw (by omega) hh rfl R.fits.sur hln
theorem next_calls (G : GS su q h l) (hq : q + 1 ≤ 1099511627776) {s : ByteArray} (hs : s.size ≤ 1000) (ins : Bool) (hsu : Kd.C Kd.string w A0 su.length su) (hc0 : su.length ≤ c0) (hso : Kd.C k24 w A1 0 ([] : List S24)) :
    Calls Try.prog 59 #[.agg #[.slice A0 su.length c0, .slice A1 0 c1, .int .i64 (q : Int), .int .i64 (h : Int), .int .i64 (l : Int)], .string s, .bool ins] w fun e w' =>
      e = .returned (.tuple #[.agg #[.slice A0 su.length c0, .slice A1 0 c1, .int .i64 ((q : Int) + 1), .int .i64 (halfN h ins : Int), .int .i64 ((allN su h l s ins).size : Int)], .string (allN su h l s ins), .bool (fitsB su h l s ins)]) ∧ Below w.heap.size w w' := by
  have n1 := G.n1
  have n2 := G.n2
  have h2 := G.k.h
  have h3 := G.k.l
  have hw : wdN su ≤ 200 := by unfold wdN; omega
  have hf : fitsB su h l s ins = decide (((allN su h l s ins).size : Int) ≤ 64 * (wdN su : Int)) := decide_eq_decide.2 (by omega)
  rw [hf]
  cases ins with
  | true => exact vnext_new (U := s) (n := s.size) rfl (show h + (1 - h) = 1 by omega) w hsu hc0 hso (by omega) (by omega) (by omega) (room_eq su [] _ _ _ (by omega) (by omega))
  | false =>
    have ht := text_size G
    have hz : (textN su h l ++ s).size = l + s.size := by rw [ByteArray.size_append, ht]
    exact vnext_add (T := textN su h l) (U := textN su h l ++ s) (n := (textN su h l ++ s).size) rfl rfl w hsu hc0 hso (by omega) (by omega) (by omega) (fun W hW => text_calls W G.r n1 h2 h3 (Kd.C_below hsu hW) hc0 (Kd.C_below hso hW) _) (room_eq su [] _ _ _ (by omega) (by omega))
theorem moves_calls (G : GS su q h l) (hq : q + 1 ≤ 1099511627776) {s : ByteArray} (hs : s.size ≤ 1000) (ins : Bool) (hf : fitsB su h l s ins = true) (hsu : Kd.C Kd.string w A0 su.length su) (hc0 : su.length ≤ c0) (hso : Kd.C k24 w A1 0 ([] : List S24)) :
    Calls Try.prog 37 #[.agg #[.slice A0 su.length c0, .slice A1 0 c1, .int .i64 (q : Int), .int .i64 (h : Int), .int .i64 (l : Int)], .string s, .bool ins] w fun e w' => ∃ v, e = .returned (.tuple #[v, .int .i64 0]) ∧ Kd.R k24 24 w' w.heap.size (fun _ => True) v (movesN su q h l s ins) ∧ Below w.heap.size w w' := by
  have n1 := G.n1
  have n2 := G.n2
  have h2 := G.k.h
  have h3 := G.k.l
  have hw : wdN su ≤ 200 := by unfold wdN; omega
  have hw2 : 2 + 2 * wdN su ≤ su.length := by unfold wdN; omega
  have hz : s.size ≤ (allN su h l s ins).size := by
    unfold allN
    split
    · omega
    · rw [ByteArray.size_append]; omega
  have hfit : (allN su h l s ins).size ≤ 64 * wdN su := of_decide_eq_true hf
  have hh : halfN h ins ≤ 1 := by unfold halfN; split <;> omega
  have ht : ((q : Int) + 1).tmod 2 = (((q + 1) % 2 : Nat) : Int) := by rw [Int.tmod_eq_emod_of_nonneg (by omega)]; omega
  have hN := fun W hW => next_calls W G hq hs ins (Kd.C_below hsu hW) hc0 (c1 := c1) (Kd.C_below hso hW)
  rw [hf] at hN
  have := vmoves_calls 30 (half := halfN h ins) (n := (allN su h l s ins).size) (all := allN su h l s ins) (hd := headP (q + 1) (halfN h ins) (allN su h l s ins).size) (s := s) (ins := ins) (rm := 0) w hsu hc0 hso (fun W hW => right_calls W G (Kd.C_below hsu hW) hc0 (Kd.C_below hso hW)) hN rfl hz (by omega)
    (wide_eq su [] _ _ _ (by omega) (by omega)) hw2 (by omega) hh rfl G.sur (head_eq su [] (q + 1) _ _) (by omega) (by omega)
  rw [ht] at this
  exact this
theorem long_calls (G : GS su q h l) (hq : q + 1 ≤ 1099511627776) {s : ByteArray} (hs : s.size ≤ 1000) (ins : Bool) (hf : fitsB su h l s ins = false) (hsu : Kd.C Kd.string w A0 su.length su) (hc0 : su.length ≤ c0) (hso : Kd.C k24 w A1 0 ([] : List S24)) :
    Calls Try.prog 37 #[.agg #[.slice A0 su.length c0, .slice A1 0 c1, .int .i64 (q : Int), .int .i64 (h : Int), .int .i64 (l : Int)], .string s, .bool ins] w fun e w' => ∃ v, e = .returned (.tuple #[v, .int .i64 2]) ∧ Kd.R k24 24 w' w.heap.size (fun _ => True) v ([] : List S24) ∧ Below w.heap.size w w' := by
  have hN := fun W hW => next_calls W G hq hs ins (Kd.C_below hsu hW) hc0 (c1 := c1) (Kd.C_below hso hW)
  rw [hf] at hN
  exact vmoves_long w (fun W hW => right_calls W G (Kd.C_below hsu hW) hc0 (Kd.C_below hso hW)) hN
end
theorem next_iff {su : List ByteArray} {so : List S24} {q h l : Nat} {s : ByteArray} : nextB su so (q : Int) (h : Int) (l : Int) s = true ↔ so = [] ∧ GS su q h l ∧ q + 1 ≤ 1099511627776 ∧ s.size ≤ 1000 := by
  unfold nextB
  simp only [Bool.and_eq_true, decide_eq_true_eq, good_iff]
  constructor
  · rintro ⟨⟨⟨a, b⟩, c⟩, d⟩; exact ⟨a, b, by omega, d⟩
  · rintro ⟨a, b, c, d⟩; exact ⟨⟨⟨a, b⟩, by omega⟩, d⟩
theorem next_good {su : List ByteArray} {so : List S24} {a b c : Int} {s : ByteArray} (h : nextB su so a b c s = true) : goodB su so a b c = true := by
  unfold nextB at h
  simp only [Bool.and_eq_true] at h
  exact h.1.1
theorem vault_Moves.calls (A0_0 : Option Addr) (c0_0 : Nat) (l0_0 : List ByteArray) (A0_1 : Option Addr) (c0_1 : Nat) (l0_1 : List (S24)) (a0_2 : Int) (a0_3 : Int) (a0_4 : Int) (a1 : ByteArray) (a2 : Bool) (r1 : List (S24)) (r2 : Int) (w : World) (hr0_0 : Kd.C Kd.string w A0_0 l0_0.length l0_0) (hc0_0 : l0_0.length ≤ c0_0) (hr0_1 : Kd.C k24 w A0_1 l0_1.length l0_1) (hc0_1 : l0_1.length ≤ c0_1) (h : vault_Moves.f l0_0 l0_1 a0_2 a0_3 a0_4 a1 a2 = some (r1, r2)) :
    Calls Try.prog 37 #[.agg #[.slice A0_0 l0_0.length c0_0, .slice A0_1 l0_1.length c0_1, .int .i64 a0_2, .int .i64 a0_3, .int .i64 a0_4], .string a1, .bool a2] w fun e w' => ∃ v0_ : Value, e = .returned (.tuple #[v0_, .int .i64 r2]) ∧ Kd.R k24 24 w' w.heap.size (fun _ => True) v0_ r1 ∧ Below w.heap.size w w' := by
  unfold vault_Moves.f at h
  by_cases hg : nextB l0_0 l0_1 a0_2 a0_3 a0_4 a1 = true
  case neg => rw [if_neg hg] at h; cases h
  rw [if_pos hg] at h
  obtain ⟨q, hh, l, rfl, rfl, rfl⟩ := good_nat (next_good hg)
  obtain ⟨rfl, G, hq, hs⟩ := next_iff.1 hg
  simp only [Int.toNat_natCast] at h
  cases hf : fitsB l0_0 hh l a1 a2
  · rw [hf, if_neg (by decide)] at h
    obtain ⟨rfl, rfl⟩ : [] = r1 ∧ 2 = r2 := by simpa using h
    exact long_calls w G hq hs a2 hf hr0_0 hc0_0 hr0_1
  · rw [hf, if_pos rfl] at h
    obtain ⟨rfl, rfl⟩ : movesN l0_0 q hh l a1 a2 = r1 ∧ 0 = r2 := by simpa using h
    exact moves_calls w G hq hs a2 hf hr0_0 hc0_0 hr0_1
theorem vault_Keep.calls (A0_0 : Option Addr) (c0_0 : Nat) (l0_0 : List ByteArray) (A0_1 : Option Addr) (c0_1 : Nat) (l0_1 : List (S24)) (a0_2 : Int) (a0_3 : Int) (a0_4 : Int) (a1 : ByteArray) (a2 : Bool) (r1 : List ByteArray) (r2 : List (S24)) (r3 : Int) (r4 : Int) (r5 : Int) (r6 : Int) (w : World) (hr0_0 : Kd.C Kd.string w A0_0 l0_0.length l0_0) (hc0_0 : l0_0.length ≤ c0_0) (hr0_1 : Kd.C k24 w A0_1 l0_1.length l0_1) (hc0_1 : l0_1.length ≤ c0_1) (h : vault_Keep.f l0_0 l0_1 a0_2 a0_3 a0_4 a1 a2 = some (r1, r2, r3, r4, r5, r6)) :
    Calls Try.prog 33 #[.agg #[.slice A0_0 l0_0.length c0_0, .slice A0_1 l0_1.length c0_1, .int .i64 a0_2, .int .i64 a0_3, .int .i64 a0_4], .string a1, .bool a2] w fun e w' => ∃ v0_ v1_ : Value, e = .returned (.tuple #[.agg #[v0_, v1_, .int .i64 r3, .int .i64 r4, .int .i64 r5], .int .i64 r6]) ∧ Kd.R Kd.string 9 w' w.heap.size (fun _ => True) v0_ r1 ∧ Kd.R k24 24 w' w.heap.size (fun _ => True) v1_ r2 ∧ Below w.heap.size w w' := by
  unfold vault_Keep.f at h
  by_cases hg : nextB l0_0 l0_1 a0_2 a0_3 a0_4 a1 = true
  case neg => rw [if_neg hg] at h; cases h
  rw [if_pos hg] at h
  obtain ⟨q, hh, l, rfl, rfl, rfl⟩ := good_nat (next_good hg)
  obtain ⟨rfl, G, hq, hs⟩ := next_iff.1 hg
  have n2 := G.n2
  simp only [Int.toNat_natCast] at h
  cases hf : fitsB l0_0 hh l a1 a2
  · rw [hf, if_neg (by decide)] at h
    simp only [Option.some.injEq, Prod.mk.injEq] at h
    obtain ⟨rfl, rfl, rfl, rfl, rfl, rfl⟩ := h
    exact vkeep_err w hr0_0 hc0_0 hr0_1 rfl (by omega) (fun W hW => long_calls W G hq hs a2 hf (Kd.C_below hr0_0 hW) hc0_0 (Kd.C_below hr0_1 hW))
  · rw [hf, if_pos rfl] at h
    simp only [Option.some.injEq, Prod.mk.injEq] at h
    obtain ⟨rfl, rfl, rfl, rfl, rfl, rfl⟩ := h
    have hN := fun W hW => next_calls W G hq hs a2 (Kd.C_below hr0_0 hW) hc0_0 (c1 := c0_1) (Kd.C_below hr0_1 hW)
    rw [hf] at hN
    exact vkeep_calls (er := (doB l0_0 [] (movesN l0_0 q hh l a1 a2)).2.2) w hr0_0 hc0_0 hr0_1 (fun W hW => moves_calls W G hq hs a2 hf (Kd.C_below hr0_0 hW) hc0_0 (Kd.C_below hr0_1 hW)) hN (by unfold disk_Do.f; rw [if_pos ⟨by omega, by simp⟩])
theorem best_cases (m : Nat → HdI) : bestI m 2 = ⟨false, -1, 0, 0⟩ ∨ ∃ i, i < 2 ∧ (m i).is = true ∧ bestI m 2 = m i := by
  have key : ∀ b x : HdI, better b x = b ∨ (x.is = true ∧ better b x = x) := by
    intro b x
    unfold better
    split
    · exact .inr ⟨by rename_i h; exact h.1, rfl⟩
    · exact .inl rfl
  show better (better ⟨false, -1, 0, 0⟩ (m 0)) (m 1) = _ ∨ ∃ i, i < 2 ∧ (m i).is = true ∧ better (better ⟨false, -1, 0, 0⟩ (m 0)) (m 1) = m i
  rcases key (better ⟨false, -1, 0, 0⟩ (m 0)) (m 1) with e | ⟨hi, e⟩
  · rcases key ⟨false, -1, 0, 0⟩ (m 0) with e2 | ⟨hi, e2⟩
    · exact .inl (e.trans e2)
    · exact .inr ⟨0, by omega, hi, e.trans e2⟩
  · exact .inr ⟨1, by omega, hi, e⟩
theorem hd_eta (b : HdI) : b = ⟨b.is, b.q, b.h, b.l⟩ := rfl
theorem hd_is {wd : Nat} {g : ByteArray} (h : (hdI wd g).is = true) : nB g 8 12 ≤ 1 ∧ nB g 12 16 ≤ 64 * wd := by
  unfold hdI at h
  simp only [Bool.and_eq_true, decide_eq_true_eq] at h
  omega
structure OS (su : List ByteArray) : Prop where
  r : rightB su [] = true
  n1 : 4 ≤ su.length
  small : ∀ i : Nat, i < 2 → nB (blkN su i) 0 8 < 9223372036854775808
  par : ∀ i : Nat, i < 2 → (hdI (wdN su) (blkN su i)).is = true → nB (blkN su i) 0 8 % 2 = i
theorem open_iff {su : List ByteArray} {so : List S24} : openB su so = true ↔ so = [] ∧ OS su := by
  unfold openB smallB
  simp only [Bool.and_eq_true, decide_eq_true_eq, List.isEmpty_iff, Bool.or_eq_true, Bool.not_eq_true']
  constructor
  · rintro ⟨⟨⟨⟨⟨⟨e0, hr⟩, h4⟩, s0⟩, s1⟩, p0⟩, p1⟩
    refine ⟨e0, hr, h4, fun i hi => ?_, fun i hi hs => ?_⟩
    · rcases (show i = 0 ∨ i = 1 by omega) with rfl | rfl
      · exact s0
      · exact s1
    · rcases (show i = 0 ∨ i = 1 by omega) with rfl | rfl
      · rcases p0 with p | p
        · exact absurd (p.symm.trans hs) (by decide)
        · exact p
      · rcases p1 with p | p
        · exact absurd (p.symm.trans hs) (by decide)
        · exact p
  · rintro ⟨e0, O⟩
    refine ⟨⟨⟨⟨⟨⟨e0, O.r⟩, O.n1⟩, O.small 0 (by omega)⟩, O.small 1 (by omega)⟩, ?_⟩, ?_⟩
    · cases hi : (hdI (wdN su) (blkN su 0)).is
      · exact .inl rfl
      · exact .inr (O.par 0 (by omega) hi)
    · cases hi : (hdI (wdN su) (blkN su 1)).is
      · exact .inl rfl
      · exact .inr (O.par 1 (by omega) hi)
theorem vault_Open.calls (A0_0 : Option Addr) (c0_0 : Nat) (l0_0 : List ByteArray) (A0_1 : Option Addr) (c0_1 : Nat) (l0_1 : List (S24)) (r1 : List ByteArray) (r2 : List (S24)) (r3 : Int) (r4 : Int) (r5 : Int) (r6 : ByteArray) (r7 : Int) (w : World) (hr0_0 : Kd.C Kd.string w A0_0 l0_0.length l0_0) (hc0_0 : l0_0.length ≤ c0_0) (hr0_1 : Kd.C k24 w A0_1 l0_1.length l0_1) (hc0_1 : l0_1.length ≤ c0_1) (h : vault_Open.f l0_0 l0_1 = some (r1, r2, r3, r4, r5, r6, r7)) :
    Calls Try.prog 35 #[.agg #[.slice A0_0 l0_0.length c0_0, .slice A0_1 l0_1.length c0_1]] w fun e w' => ∃ v0_ v1_ : Value, e = .returned (.tuple #[.agg #[v0_, v1_, .int .i64 r3, .int .i64 r4, .int .i64 r5], .string r6, .int .i64 r7]) ∧ Kd.R Kd.string 9 w' w.heap.size (fun _ => True) v0_ r1 ∧ Kd.R k24 24 w' w.heap.size (fun _ => True) v1_ r2 ∧ Below w.heap.size w w' := by
  unfold vault_Open.f at h
  by_cases hg : openB l0_0 l0_1 = true
  case neg => rw [if_neg hg] at h; cases h
  rw [if_pos hg] at h
  obtain ⟨rfl, O⟩ := open_iff.1 hg
  have R := right_iff.1 O.r
  have n1 := O.n1
  have n2 := R.most
  have hR : ∀ i : Nat, i < 2 → ∀ W, Below w.heap.size w W → Calls Try.prog 22 #[.agg #[.slice A0_0 l0_0.length c0_0, .slice A0_1 0 c0_1], .int .i64 (i : Int)] W fun e w' => e = .returned (.tuple #[.string (blkN l0_0 i), .int .i64 0]) ∧ Below W.heap.size W w' := fun i hi W hW =>
    disk_Read.calls A0_0 c0_0 l0_0 A0_1 c0_1 [] (i : Int) (blkN l0_0 i) 0 W (Kd.C_below hr0_0 hW) hc0_0 (Kd.C_below hr0_1 hW) hc0_1 (by unfold disk_Read.f readB; rw [if_pos ⟨O.r, by omega, by omega⟩]; rfl)
  have hB : ∀ i : Nat, i < 2 → ∀ W g, Below w.heap.size w W → w.heap.size ≤ g → W.heap[g]? = some (.cells #[.slice A0_0 l0_0.length c0_0, .slice A0_1 0 c0_1, .int .i64 0, .int .i64 0, .int .i64 0] 89 (0, 0)) → Calls Try.prog 60 #[.pointer (some ⟨g, 0, none⟩), .string (blkN l0_0 i)] W fun e w' => e = .returned (.bool (hdI (wdN l0_0) (blkN l0_0 i)).is) ∧ w'.heap[g]? = some (.cells #[.slice A0_0 l0_0.length c0_0, .slice A0_1 0 c0_1, .int .i64 (hdI (wdN l0_0) (blkN l0_0 i)).q, .int .i64 (hdI (wdN l0_0) (blkN l0_0 i)).h, .int .i64 (hdI (wdN l0_0) (blkN l0_0 i)).l] 89 (0, 0)) ∧ Below w.heap.size w w' ∧ (∀ g' o, g' ≠ g → W.heap[g']? = some o → w'.heap[g']? = some o) := fun i hi W g hb hg hbb => by
    have hsz := blk_size R.fits.sur (i := i) (by omega)
    have hsm := O.small i hi
    have b2 : nB (blkN l0_0 i) 8 12 < 4294967296 := nB_lt _ 8
    have b3 : nB (blkN l0_0 i) 12 16 < 4294967296 := nB_lt _ 12
    have := vault_read_calls 30 g (so := []) (A1 := A0_1) (c1 := c0_1) (sq := 0) (hf := 0) (ln := 0) (n1 := (nB (blkN l0_0 i) 0 8 : Int)) (n2 := (nB (blkN l0_0 i) 8 12 : Int)) (n3 := (nB (blkN l0_0 i) 12 16 : Int)) (rm := 64 * (wdN l0_0 : Int)) (hd := headP (nB (blkN l0_0 i) 0 8) (nB (blkN l0_0 i) 8 12) (nB (blkN l0_0 i) 12 16)) w W hb hg hbb hr0_0 hc0_0 hr0_1 (Nat.zero_le _) (s := blkN l0_0 i) (by omega) (take_eq (by omega) hsm) (take_eq (by omega) (by omega)) (take_eq (by omega) (by omega)) (room_eq l0_0 [] _ _ _ (by omega) (by omega)) (head_eq l0_0 [] _ _ _) (by omega)
    rw [reads_is] at this
    exact this
  have hp : ∀ i : Nat, i < 2 → (hdI (wdN l0_0) (blkN l0_0 i)).is = true → (hdI (wdN l0_0) (blkN l0_0 i)).q.tmod 2 = i := fun i hi hs => by
    have := O.par i hi hs
    show ((nB (blkN l0_0 i) 0 8 : Nat) : Int).tmod 2 = i
    rw [Int.tmod_eq_emod_of_nonneg (by omega)]
    omega
  have hq : ∀ i : Nat, i < 2 → 0 ≤ (hdI (wdN l0_0) (blkN l0_0 i)).q := fun i hi => Int.natCast_nonneg _
  by_cases hneg : (bestN l0_0).q < 0
  · rw [if_pos hneg] at h
    simp only [Option.some.injEq, Prod.mk.injEq] at h
    obtain ⟨rfl, rfl, rfl, rfl, rfl, rfl, rfl⟩ := h
    exact vopen_none (fun i => blkN l0_0 i) (fun i => hdI (wdN l0_0) (blkN l0_0 i)) (er := 0) (r1 := []) (T := ⟨#[]⟩) w hr0_0 hc0_0 hr0_1 (may_ok O.r O.n1) (by omega) hR hB hp hq (b0 := (bestN l0_0).is) (bq := (bestN l0_0).q) (bh := (bestN l0_0).h) (bl := (bestN l0_0).l) (hd_eta (bestN l0_0)) hneg
  · rw [if_neg hneg] at h
    simp only [Option.some.injEq, Prod.mk.injEq] at h
    obtain ⟨rfl, rfl, rfl, rfl, rfl, rfl, rfl⟩ := h
    refine vopen_ok (fun i => blkN l0_0 i) (fun i => hdI (wdN l0_0) (blkN l0_0 i)) (er := 0) (r1 := l0_0) w hr0_0 hc0_0 hr0_1 (may_ok O.r O.n1) (by omega) hR hB hp hq (b0 := (bestN l0_0).is) (bq := (bestN l0_0).q) (bh := (bestN l0_0).h) (bl := (bestN l0_0).l) (hd_eta (bestN l0_0)) ?_ (by omega) ?_
    · unfold disk_Do.f doB
      rw [if_pos ⟨by omega, by simp⟩, if_pos ⟨O.r, rfl⟩]
      rfl
    · intro W Ap cp Aq cq h0 h1 h2
      rcases best_cases (fun i => hdI (wdN l0_0) (blkN l0_0 i)) with e | ⟨i, hi, his, e⟩
      · exact absurd (show (bestN l0_0).q < 0 by show (bestI _ 2).q < 0; rw [e]; decide) hneg
      · obtain ⟨k1, k2⟩ := hd_is his
        have eh : (bestN l0_0).h = ((nB (blkN l0_0 i) 8 12 : Nat) : Int) := by show (bestI _ 2).h = _; rw [e]; rfl
        have el : (bestN l0_0).l = ((nB (blkN l0_0 i) 12 16 : Nat) : Int) := by show (bestI _ 2).l = _; rw [e]; rfl
        rw [eh, el]
        simp only [Int.toNat_natCast]
        exact text_calls W O.r O.n1 k1 k2 h0 h1 h2 _
end Go.Proofs.Ytcfinlmocgbnbaa.Pr
end
section
namespace Go.Proofs.Ytcfinlmocgbnbaa.Pr
open Go.Proofs.Ytcfinlmocgbnbaa.Sq Go.RowKit Go.Shelf Go.Proofs.Ytcfinlmocgbnbaa.XB Go.Proofs.YtcfinlmocgbnbaaW.PrintWords Go.Proofs.YtcfinlmocgbnbaaW.PrintLast Go.Proofs.YtcfinlmocgbnbaaW.PrintMore
attribute [local go_sem] Oper.semAt_some
set_option linter.unusedVariables false
set_option linter.unusedSimpArgs false
set_option maxRecDepth 100000
def aw10.T10 : Bool × List (List Nat × List Nat) := (true, [([], []), ([], []), ([1], [1]), ([0, 2], [0, 2]), ([3], [3]), ([4], [4]), ([4], [4]), ([], []), ([7, 5, 3, 0, 1, 2, 3, 4, 5, 7], [5, 7]), ([6, 8, 0, 1, 2, 3, 4, 5, 6, 7, 8], [6])])
def aw10.B10 : List Nat := [0, 0, 2, 7, 15, 31, 31, 0, 191, 511]
theorem aw10.tab10 : rtab .any (opsOf Try.f28 10) = aw10.T10 := by kernel_rfl
theorem aw10.bits10 : waitsOk aw10.T10.2 aw10.B10 = true := by kernel_rfl
def regionIn15 : Code → Nat → Option Code
  | .region id ops m, k => if id == k then some (.region id ops m) else none
  | .seq a b, k => match regionIn15 a k with
    | some o => some o
    | none => regionIn15 b k
  | .cond _ a b, k => match regionIn15 a k with
    | some o => some o
    | none => regionIn15 b k
  | .block _ c, k => regionIn15 c k
  | .loop c, k => regionIn15 c k
  | .scope c, k => regionIn15 c k
  | _, _ => none
noncomputable def aw10 : Code := ((Try.f28.body.bind fun c => regionIn15 c 10)).getD .skip
set_option maxHeartbeats 8000000 in
theorem aw10_r {Q : Exit → Act → World → Prop} (go : Nat) {su : List ByteArray} {A B : Option Addr} {c0 c1 : Nat} (w : World) (hp : ∀ c a (m : Nat) v w, Q (.panic c) (a.put (some m) v) w → Q (.panic c) a w)
    (hgo : w.heap[go]? = some (.cells #[.slice A su.length c0, .slice B 0 c1, .int .i64 3, .int .i64 1, .int .i64 5] 56 (0, 0))) (hsu : Kd.C Kd.string w A su.length su) (hl : su.length ≤ c0) (hso : Kd.C k24 w B 0 ([] : List S24)) (he : vault_Keep.f su [] 3 1 5 (strOfNums (List.replicate 65 0)) true = some (su, [], 3, 1, 5, 2))
    {p0 p1 p2 p3 p4 p5 p6 p7 p8 p9 p10 p11 p13 p14 p15 p16 p17 p18 p19 p20 p21 p24 p25 p26 p27 p28 p29 p30 p31 p32 p33 p34 p35 p36 p37 p38 p39 p40 p41 p42 p43 p44 p45 p46 p47 p48 p49 p50 p51 p52 p53 p54 p55 p56 p57 p58 p59 p60 p61 p62 p63 p64 p65 p66 p67 p68 p69 p70 p71 p72 p80 p81 p82 p83 p84 p85 p86 p87 p88 p89 p90 p91 p92 p93 p94 p95 p96 p97 p98 p99 p100 p101 p102 p103 p104 p105 p106 p107 p108 p109 p110 p111 p112 p113 p114 p115 p116 p117 p118 p119 p120 p121 p122 p123 p124 p125 p126 p127 p128 p129 p130 p131 p132 p133 p134 p135 p136 p137 p138 p139 p140 : Value} {u22 u23 u73 u74 u75 u76 u77 u78 u79 : Value}
    (hQ : ∀ (g22 : Nat) (v73 v74 v75 v76 v77 v78 v79 : Value) (W' : World), Below w.heap.size w W' → Q .normal ⟨#[p0, p1, p2, p3, p4, p5, p6, p7, p8, p9, p10, p11, .pointer (some ⟨go, 0, none⟩), p13, p14, p15, p16, p17, p18, p19, p20, p21, .pointer (some ⟨g22, 0, none⟩), .int .i64 2, p24, p25, p26, p27, p28, p29, p30, p31, p32, p33, p34, p35, p36, p37, p38, p39, p40, p41, p42, p43, p44, p45, p46, p47, p48, p49, p50, p51, p52, p53, p54, p55, p56, p57, p58, p59, p60, p61, p62, p63, p64, p65, p66, p67, p68, p69, p70, p71, p72, v73, v74, v75, v76, v77, v78, v79, p80, p81, p82, p83, p84, p85, p86, p87, p88, p89, p90, p91, p92, p93, p94, p95, p96, p97, p98, p99, p100, p101, p102, p103, p104, p105, p106, p107, p108, p109, p110, p111, p112, p113, p114, p115, p116, p117, p118, p119, p120, p121, p122, p123, p124, p125, p126, p127, p128, p129, p130, p131, p132, p133, p134, p135, p136, p137, p138, p139, p140], []⟩ W') :
    Code.wp Try.prog aw10 Q ⟨#[p0, p1, p2, p3, p4, p5, p6, p7, p8, p9, p10, p11, .pointer (some ⟨go, 0, none⟩), p13, p14, p15, p16, p17, p18, p19, p20, p21, u22, u23, p24, p25, p26, p27, p28, p29, p30, p31, p32, p33, p34, p35, p36, p37, p38, p39, p40, p41, p42, p43, p44, p45, p46, p47, p48, p49, p50, p51, p52, p53, p54, p55, p56, p57, p58, p59, p60, p61, p62, p63, p64, p65, p66, p67, p68, p69, p70, p71, p72, u73, u74, u75, u76, u77, u78, u79, p80, p81, p82, p83, p84, p85, p86, p87, p88, p89, p90, p91, p92, p93, p94, p95, p96, p97, p98, p99, p100, p101, p102, p103, p104, p105, p106, p107, p108, p109, p110, p111, p112, p113, p114, p115, p116, p117, p118, p119, p120, p121, p122, p123, p124, p125, p126, p127, p128, p129, p130, p131, p132, p133, p134, p135, p136, p137, p138, p139, p140], []⟩ w := by
 conv => arg 2; whnf
 have HB := am (below_drew1 (Below.refl w.heap.size w))
 have BO := am (Go.Proofs.YtcfinlmocgbnbaaW.PrintWords.bkD hgo)
 have HC := am (Kd.C_drew hsu)
 have HD := am (Kd.C_drew hso)
 clear hgo hsu hso
 refine start_ (n := 10) (S := fun w' => w'.cell? ⟨go, 0, none⟩ = some (.slice A su.length c0) ∧ w'.cell? ⟨go, 1, none⟩ = some (.slice B 0 c1) ∧ w'.cell? ⟨go, 2, none⟩ = some (.int .i64 3) ∧ w'.cell? ⟨go, 3, none⟩ = some (.int .i64 1) ∧ w'.cell? ⟨go, 4, none⟩ = some (.int .i64 5)) (ds := [8]) #[false, false, false, false, false, false, false, false, false, false] (by kernel_rfl) rfl rfl (bc5 BO) (fun hHeld => ?_); refine with_tabW aw10.tab10 aw10.bits10 (fun HT_ HW_ => ?_)
 generalize w.drew = w0 at HB BO HC HD hHeld ⊢
 refine tk_ 0 (some 74) HT_ HW_ rfl rfl (.inl ⟨by rfl, by rintro w' ⟨s0, s1, s2, s3, s4⟩; go_simp; with_reducible rfl⟩) hHeld (by simp only [Act.put, sa_, s0_, s1_, i64_w, i32_w]; rfl) ?_ (by kernel_rfl) (fun c a w h => hp c a _ _ w h)
 refine two_ (i := 1) (j := 7) (Ni := (some 75)) (Nj := (some 22)) #[true, true, false, false, false, false, false, false, false, false] #[true, false, false, false, false, false, false, true, false, false] rfl rfl rfl rfl (two_of HT_.out (by kernel_rfl)) (by decide) (by decide) (fun K hK => ?_) (fun K hK => ?_)
 ·skip
  refine Kd.R_make_step (Kd.int .u8) _ 5 (by rfl) (N := 75) rfl 49 _ _ rfl 65 rfl rfl Try.underlying49 (.int .u8 0) 1 info5 rfl (by decide) (by omega) 0 (ok := fun _ => True) (okp := fun _ => True) rfl (fun _ hk => hk) trivial (by omega) (by omega) (Below.refl _ _) (Nat.le_refl _) ?_
  intro v75 W5 h5 hb hg_ hn_
  clear hg_ hn_
  have n0_ := am (below_step HB.out hb); have n1_ := am (blk_same BO.out hb); have n2_ := am (Kd.C_below HC.out hb); have n3_ := am (Kd.C_below HD.out hb); clear HB BO HC HD; have HB := n0_; have BO := n1_; have HC := n2_; have HD := n3_; clear n0_ n1_ n2_ n3_
  have HW5 := am h5; clear h5 hb
  refine hK.out _ _ (bc5 BO) (fun hHeld => ?_)
  clear hK K
  refine norm_ (by show Act.put _ (some 75) _ = _; simp only [Act.put, sa_, s0_, s1_, i64_w, i32_w]; rfl) ?_
  refine two_ (i := 2) (j := 7) (Ni := (some 76)) (Nj := (some 22)) #[true, true, true, false, false, false, false, false, false, false] #[true, true, false, false, false, false, false, true, false, false] rfl rfl rfl rfl (two_of HT_.out (by kernel_rfl)) (by decide) (by decide) (fun K hK => ?_) (fun K hK => ?_)
  ·skip
   have hcv := own_string (P := Try.prog) Try.underlying49 Try.underlying5 Try.underlying9 (Kd.own_of_R HW5.out)
   refine value_ (w1 := ?_) (v := ?_) (by rfl) rfl ?_ ?_
   rotate_left 2
   · go_simp
     constructor
     rotate_left
     · rfl
     rfl
   clear hcv
   refine hK.out _ _ (bc5 BO) (fun hHeld => ?_)
   clear hK K
   refine norm_ (by show Act.put _ (some 76) _ = _; simp only [Act.put, sa_, s0_, s1_, i64_w, i32_w]; rfl) ?_
   refine two_ (i := 3) (j := 7) (Ni := (some 77)) (Nj := (some 22)) #[true, true, true, true, false, false, false, false, false, false] #[true, true, true, false, false, false, false, true, false, false] rfl rfl rfl rfl (two_of HT_.out (by kernel_rfl)) (by decide) (by decide) (fun K hK => ?_) (fun K hK => ?_)
   ·skip
    refine goes_ Try.func33 (by kernel_rfl) rfl #[.agg #[.slice A su.length c0, .slice B 0 c1, .int .i64 3, .int .i64 1, .int .i64 5], .string (strOfNums (List.replicate (Int.toNat 65) 0)), .bool true] (by rfl) rfl rfl (by (try simp only [List.map_toArray, List.map_cons, List.map_nil]) <;> rfl) ?_
    refine (vault_Keep.calls _ _ su _ _ [] 3 1 5 (strOfNums (List.replicate 65 0)) true su [] 3 1 5 2 _ HC.out hl HD.out (Nat.zero_le _) he).mono ?_
    rintro e W6 ⟨v0, v1, rfl, h0, h1, hb⟩
    obtain ⟨Ar, cr, e0⟩ := Kd.R_slice h0
    subst e0
    obtain ⟨Br, dr, e1⟩ := Kd.R_slice h1
    subst e1
    clear h0 h1
    refine ⟨_, rfl, ?_⟩
    have n0_ := am (below_step HB.out hb); have n1_ := am (blk_same BO.out hb); have n2_ := am (Kd.C_below HC.out hb); have n3_ := am (Kd.C_below HD.out hb); have n4_ := am (Kd.R_below HW5.out hb); clear HB BO HC HD HW5; have HB := n0_; have BO := n1_; have HC := n2_; have HD := n3_; have HW5 := n4_; clear n0_ n1_ n2_ n3_ n4_
    clear hb
    refine hK.out _ _ (bc5 BO) (fun hHeld => ?_)
    clear hK K
    refine norm_ (by show Act.put _ (some 77) _ = _; simp only [Act.put, sa_, s0_, s1_, i64_w, i32_w]; rfl) ?_
    refine pu_ 4 (some 73) HT_ rfl rfl (.inl ⟨by rfl, by intro w'; go_simp; with_reducible rfl⟩) (by simp only [Act.put, sa_, s0_, s1_, i64_w, i32_w]; rfl) ?_ (by kernel_rfl) (fun c a w h => hp c a _ _ w h)
    refine pu_ 5 (some 78) HT_ rfl rfl (.inl ⟨by rfl, by intro w'; go_simp; with_reducible rfl⟩) (by simp only [Act.put, sa_, s0_, s1_, i64_w, i32_w]; rfl) ?_ (by kernel_rfl) (fun c a w h => hp c a _ _ w h)
    refine pu_ 6 (some 79) HT_ rfl rfl (.inl ⟨by rfl, by intro w'; go_simp; with_reducible rfl⟩) (by simp only [Act.put, sa_, s0_, s1_, i64_w, i32_w]; rfl) ?_ (by kernel_rfl) (fun c a w h => hp c a _ _ w h)
    refine on_ 7 (some 22) HT_ rfl rfl (fun K hK => ?_)
    refine box_step ?hg (N := 22) ?hd (cs := #[.slice none 0 0, .slice none 0 0, .int .i64 0, .int .i64 0, .int .i64 0]) (t := 56) ?hr ?_; (case hd => rfl); (case hg => rfl); (case hr => first | (go_simp; done) | (go_simp; rfl))
    intro g22 eg22 Wg Bg hb
    have l22 : w.heap.size ≤ g22 := by rw [eg22]; exact HB.out.size
    have n22 : go ≠ g22 := by have := Go.Proofs.YtcfinlmocgbnbaaW.PrintWords.blk_lt BO.out; omega
    clear eg22
    have n0_ := am (below_step HB.out hb); have n1_ := am (blk_same BO.out hb); have n2_ := am (Kd.C_below HC.out hb); have n3_ := am (Kd.C_below HD.out hb); have n4_ := am (Kd.R_below HW5.out hb); clear HB BO HC HD HW5; have HB := n0_; have BO := n1_; have HC := n2_; have HD := n3_; have HW5 := n4_; clear n0_ n1_ n2_ n3_ n4_
    have B22 := am Bg; clear Bg hb
    refine hK.out _ _ (bc5 BO) (fun hHeld => ?_)
    clear hK K
    refine norm_ (by show Act.put _ (some 22) _ = _; simp only [Act.put, sa_, s0_, s1_, i64_w, i32_w]; rfl) ?_
    refine la_ 8 none HT_ rfl rfl (fun K hK => ?_)
    have hc0 := (blk_cell B22.out 0).trans rfl; have hf0 := blk_frozen B22.out 0
    have hc1 := (blk_cell B22.out 1).trans rfl; have hf1 := blk_frozen B22.out 1
    have hc2 := (blk_cell B22.out 2).trans rfl; have hf2 := blk_frozen B22.out 2
    have hc3 := (blk_cell B22.out 3).trans rfl; have hf3 := blk_frozen B22.out 3
    have hc4 := (blk_cell B22.out 4).trans rfl; have hf4 := blk_frozen B22.out 4
    refine skip_ (by rfl) rfl (by go_simp; rfl) ?_
    clear hc0 hc1 hc2 hc3 hc4 hf0 hf1 hf2 hf3 hf4
    refine hK.out _ _ ?_
    clear hK K
    refine pu_ 9 (some 23) HT_ rfl rfl (.inl ⟨by rfl, by intro w'; go_simp; with_reducible rfl⟩) (by simp only [Act.put, sa_, s0_, s1_, i64_w, i32_w]; rfl) ?_ (by kernel_rfl) (fun c a w h => hp c a _ _ w h)
    refine done_ (done_of HT_.out (by kernel_rfl)) ?_
    exact hQ g22 _ _ _ _ _ _ _ _ (below_set (below_set (below_set (below_set (below_set HB.out l22) l22) l22) l22) l22)
   ·skip
    refine box_step ?hg (N := 22) ?hd (cs := #[.slice none 0 0, .slice none 0 0, .int .i64 0, .int .i64 0, .int .i64 0]) (t := 56) ?hr ?_; (case hd => rfl); (case hg => rfl); (case hr => first | (go_simp; done) | (go_simp; rfl))
    intro g22 eg22 Wg Bg hb
    have l22 : w.heap.size ≤ g22 := by rw [eg22]; exact HB.out.size
    have n22 : go ≠ g22 := by have := Go.Proofs.YtcfinlmocgbnbaaW.PrintWords.blk_lt BO.out; omega
    clear eg22
    have n0_ := am (below_step HB.out hb); have n1_ := am (blk_same BO.out hb); have n2_ := am (Kd.C_below HC.out hb); have n3_ := am (Kd.C_below HD.out hb); have n4_ := am (Kd.R_below HW5.out hb); clear HB BO HC HD HW5; have HB := n0_; have BO := n1_; have HC := n2_; have HD := n3_; have HW5 := n4_; clear n0_ n1_ n2_ n3_ n4_
    have B22 := am Bg; clear Bg hb
    refine hK.out _ _ (bc5 BO) (fun hHeld => ?_)
    clear hK K
    refine norm_ (by show Act.put _ (some 22) _ = _; simp only [Act.put, sa_, s0_, s1_, i64_w, i32_w]; rfl) ?_
    refine on_ 3 (some 77) HT_ rfl rfl (fun K hK => ?_)
    refine goes_ Try.func33 (by kernel_rfl) rfl #[.agg #[.slice A su.length c0, .slice B 0 c1, .int .i64 3, .int .i64 1, .int .i64 5], .string (strOfNums (List.replicate (Int.toNat 65) 0)), .bool true] (by rfl) rfl rfl (by (try simp only [List.map_toArray, List.map_cons, List.map_nil]) <;> rfl) ?_
    refine (vault_Keep.calls _ _ su _ _ [] 3 1 5 (strOfNums (List.replicate 65 0)) true su [] 3 1 5 2 _ HC.out hl HD.out (Nat.zero_le _) he).mono ?_
    rintro e W6 ⟨v0, v1, rfl, h0, h1, hb⟩
    obtain ⟨Ar, cr, e0⟩ := Kd.R_slice h0
    subst e0
    obtain ⟨Br, dr, e1⟩ := Kd.R_slice h1
    subst e1
    clear h0 h1
    refine ⟨_, rfl, ?_⟩
    have n0_ := am (below_step HB.out hb); have n1_ := am (blk_same BO.out hb); have n2_ := am (Kd.C_below HC.out hb); have n3_ := am (Kd.C_below HD.out hb); have n4_ := am (Kd.R_below HW5.out hb); have n5_ := am (blk_same B22.out hb); clear HB BO HC HD HW5 B22; have HB := n0_; have BO := n1_; have HC := n2_; have HD := n3_; have HW5 := n4_; have B22 := n5_; clear n0_ n1_ n2_ n3_ n4_ n5_
    clear hb
    refine hK.out _ _ (bc5 BO) (fun hHeld => ?_)
    clear hK K
    refine norm_ (by show Act.put _ (some 77) _ = _; simp only [Act.put, sa_, s0_, s1_, i64_w, i32_w]; rfl) ?_
    refine pu_ 4 (some 73) HT_ rfl rfl (.inl ⟨by rfl, by intro w'; go_simp; with_reducible rfl⟩) (by simp only [Act.put, sa_, s0_, s1_, i64_w, i32_w]; rfl) ?_ (by kernel_rfl) (fun c a w h => hp c a _ _ w h)
    refine pu_ 5 (some 78) HT_ rfl rfl (.inl ⟨by rfl, by intro w'; go_simp; with_reducible rfl⟩) (by simp only [Act.put, sa_, s0_, s1_, i64_w, i32_w]; rfl) ?_ (by kernel_rfl) (fun c a w h => hp c a _ _ w h)
    refine pu_ 6 (some 79) HT_ rfl rfl (.inl ⟨by rfl, by intro w'; go_simp; with_reducible rfl⟩) (by simp only [Act.put, sa_, s0_, s1_, i64_w, i32_w]; rfl) ?_ (by kernel_rfl) (fun c a w h => hp c a _ _ w h)
    refine la_ 8 none HT_ rfl rfl (fun K hK => ?_)
    have hc0 := (blk_cell B22.out 0).trans rfl; have hf0 := blk_frozen B22.out 0
    have hc1 := (blk_cell B22.out 1).trans rfl; have hf1 := blk_frozen B22.out 1
    have hc2 := (blk_cell B22.out 2).trans rfl; have hf2 := blk_frozen B22.out 2
    have hc3 := (blk_cell B22.out 3).trans rfl; have hf3 := blk_frozen B22.out 3
    have hc4 := (blk_cell B22.out 4).trans rfl; have hf4 := blk_frozen B22.out 4
    refine skip_ (by rfl) rfl (by go_simp; rfl) ?_
    clear hc0 hc1 hc2 hc3 hc4 hf0 hf1 hf2 hf3 hf4
    refine hK.out _ _ ?_
    clear hK K
    refine pu_ 9 (some 23) HT_ rfl rfl (.inl ⟨by rfl, by intro w'; go_simp; with_reducible rfl⟩) (by simp only [Act.put, sa_, s0_, s1_, i64_w, i32_w]; rfl) ?_ (by kernel_rfl) (fun c a w h => hp c a _ _ w h)
    refine done_ (done_of HT_.out (by kernel_rfl)) ?_
    exact hQ g22 _ _ _ _ _ _ _ _ (below_set (below_set (below_set (below_set (below_set HB.out l22) l22) l22) l22) l22)
  ·skip
   refine box_step ?hg (N := 22) ?hd (cs := #[.slice none 0 0, .slice none 0 0, .int .i64 0, .int .i64 0, .int .i64 0]) (t := 56) ?hr ?_; (case hd => rfl); (case hg => rfl); (case hr => first | (go_simp; done) | (go_simp; rfl))
   intro g22 eg22 Wg Bg hb
   have l22 : w.heap.size ≤ g22 := by rw [eg22]; exact HB.out.size
   have n22 : go ≠ g22 := by have := Go.Proofs.YtcfinlmocgbnbaaW.PrintWords.blk_lt BO.out; omega
   clear eg22
   have n0_ := am (below_step HB.out hb); have n1_ := am (blk_same BO.out hb); have n2_ := am (Kd.C_below HC.out hb); have n3_ := am (Kd.C_below HD.out hb); have n4_ := am (Kd.R_below HW5.out hb); clear HB BO HC HD HW5; have HB := n0_; have BO := n1_; have HC := n2_; have HD := n3_; have HW5 := n4_; clear n0_ n1_ n2_ n3_ n4_
   have B22 := am Bg; clear Bg hb
   refine hK.out _ _ (bc5 BO) (fun hHeld => ?_)
   clear hK K
   refine norm_ (by show Act.put _ (some 22) _ = _; simp only [Act.put, sa_, s0_, s1_, i64_w, i32_w]; rfl) ?_
   refine on_ 2 (some 76) HT_ rfl rfl (fun K hK => ?_)
   have hcv := own_string (P := Try.prog) Try.underlying49 Try.underlying5 Try.underlying9 (Kd.own_of_R HW5.out)
   refine value_ (w1 := ?_) (v := ?_) (by rfl) rfl ?_ ?_
   rotate_left 2
   · go_simp
     constructor
     rotate_left
     · rfl
     rfl
   clear hcv
   refine hK.out _ _ (bc5 BO) (fun hHeld => ?_)
   clear hK K
   refine norm_ (by show Act.put _ (some 76) _ = _; simp only [Act.put, sa_, s0_, s1_, i64_w, i32_w]; rfl) ?_
   refine on_ 3 (some 77) HT_ rfl rfl (fun K hK => ?_)
   refine goes_ Try.func33 (by kernel_rfl) rfl #[.agg #[.slice A su.length c0, .slice B 0 c1, .int .i64 3, .int .i64 1, .int .i64 5], .string (strOfNums (List.replicate (Int.toNat 65) 0)), .bool true] (by rfl) rfl rfl (by (try simp only [List.map_toArray, List.map_cons, List.map_nil]) <;> rfl) ?_
   refine (vault_Keep.calls _ _ su _ _ [] 3 1 5 (strOfNums (List.replicate 65 0)) true su [] 3 1 5 2 _ HC.out hl HD.out (Nat.zero_le _) he).mono ?_
   rintro e W6 ⟨v0, v1, rfl, h0, h1, hb⟩
   obtain ⟨Ar, cr, e0⟩ := Kd.R_slice h0
   subst e0
   obtain ⟨Br, dr, e1⟩ := Kd.R_slice h1
   subst e1
   clear h0 h1
   refine ⟨_, rfl, ?_⟩
   have n0_ := am (below_step HB.out hb); have n1_ := am (blk_same BO.out hb); have n2_ := am (Kd.C_below HC.out hb); have n3_ := am (Kd.C_below HD.out hb); have n4_ := am (Kd.R_below HW5.out hb); have n5_ := am (blk_same B22.out hb); clear HB BO HC HD HW5 B22; have HB := n0_; have BO := n1_; have HC := n2_; have HD := n3_; have HW5 := n4_; have B22 := n5_; clear n0_ n1_ n2_ n3_ n4_ n5_
   clear hb
   refine hK.out _ _ (bc5 BO) (fun hHeld => ?_)
   clear hK K
   refine norm_ (by show Act.put _ (some 77) _ = _; simp only [Act.put, sa_, s0_, s1_, i64_w, i32_w]; rfl) ?_
   refine pu_ 4 (some 73) HT_ rfl rfl (.inl ⟨by rfl, by intro w'; go_simp; with_reducible rfl⟩) (by simp only [Act.put, sa_, s0_, s1_, i64_w, i32_w]; rfl) ?_ (by kernel_rfl) (fun c a w h => hp c a _ _ w h)
   refine pu_ 5 (some 78) HT_ rfl rfl (.inl ⟨by rfl, by intro w'; go_simp; with_reducible rfl⟩) (by simp only [Act.put, sa_, s0_, s1_, i64_w, i32_w]; rfl) ?_ (by kernel_rfl) (fun c a w h => hp c a _ _ w h)
   refine pu_ 6 (some 79) HT_ rfl rfl (.inl ⟨by rfl, by intro w'; go_simp; with_reducible rfl⟩) (by simp only [Act.put, sa_, s0_, s1_, i64_w, i32_w]; rfl) ?_ (by kernel_rfl) (fun c a w h => hp c a _ _ w h)
   refine la_ 8 none HT_ rfl rfl (fun K hK => ?_)
   have hc0 := (blk_cell B22.out 0).trans rfl; have hf0 := blk_frozen B22.out 0
   have hc1 := (blk_cell B22.out 1).trans rfl; have hf1 := blk_frozen B22.out 1
   have hc2 := (blk_cell B22.out 2).trans rfl; have hf2 := blk_frozen B22.out 2
   have hc3 := (blk_cell B22.out 3).trans rfl; have hf3 := blk_frozen B22.out 3
   have hc4 := (blk_cell B22.out 4).trans rfl; have hf4 := blk_frozen B22.out 4
   refine skip_ (by rfl) rfl (by go_simp; rfl) ?_
   clear hc0 hc1 hc2 hc3 hc4 hf0 hf1 hf2 hf3 hf4
   refine hK.out _ _ ?_
   clear hK K
   refine pu_ 9 (some 23) HT_ rfl rfl (.inl ⟨by rfl, by intro w'; go_simp; with_reducible rfl⟩) (by simp only [Act.put, sa_, s0_, s1_, i64_w, i32_w]; rfl) ?_ (by kernel_rfl) (fun c a w h => hp c a _ _ w h)
   refine done_ (done_of HT_.out (by kernel_rfl)) ?_
   exact hQ g22 _ _ _ _ _ _ _ _ (below_set (below_set (below_set (below_set (below_set HB.out l22) l22) l22) l22) l22)
 ·skip
  refine box_step ?hg (N := 22) ?hd (cs := #[.slice none 0 0, .slice none 0 0, .int .i64 0, .int .i64 0, .int .i64 0]) (t := 56) ?hr ?_; (case hd => rfl); (case hg => rfl); (case hr => first | (go_simp; done) | (go_simp; rfl))
  intro g22 eg22 Wg Bg hb
  have l22 : w.heap.size ≤ g22 := by rw [eg22]; exact HB.out.size
  have n22 : go ≠ g22 := by have := Go.Proofs.YtcfinlmocgbnbaaW.PrintWords.blk_lt BO.out; omega
  clear eg22
  have n0_ := am (below_step HB.out hb); have n1_ := am (blk_same BO.out hb); have n2_ := am (Kd.C_below HC.out hb); have n3_ := am (Kd.C_below HD.out hb); clear HB BO HC HD; have HB := n0_; have BO := n1_; have HC := n2_; have HD := n3_; clear n0_ n1_ n2_ n3_
  have B22 := am Bg; clear Bg hb
  refine hK.out _ _ (bc5 BO) (fun hHeld => ?_)
  clear hK K
  refine norm_ (by show Act.put _ (some 22) _ = _; simp only [Act.put, sa_, s0_, s1_, i64_w, i32_w]; rfl) ?_
  refine on_ 1 (some 75) HT_ rfl rfl (fun K hK => ?_)
  refine Kd.R_make_step (Kd.int .u8) _ 5 (by rfl) (N := 75) rfl 49 _ _ rfl 65 rfl rfl Try.underlying49 (.int .u8 0) 1 info5 rfl (by decide) (by omega) 0 (ok := fun _ => True) (okp := fun _ => True) rfl (fun _ hk => hk) trivial (by omega) (by omega) (Below.refl _ _) (Nat.le_refl _) ?_
  intro v75 W5 h5 hb hg_ hn_
  clear hg_ hn_
  have n0_ := am (below_step HB.out hb); have n1_ := am (blk_same BO.out hb); have n2_ := am (Kd.C_below HC.out hb); have n3_ := am (Kd.C_below HD.out hb); have n4_ := am (blk_same B22.out hb); clear HB BO HC HD B22; have HB := n0_; have BO := n1_; have HC := n2_; have HD := n3_; have B22 := n4_; clear n0_ n1_ n2_ n3_ n4_
  have HW5 := am h5; clear h5 hb
  refine hK.out _ _ (bc5 BO) (fun hHeld => ?_)
  clear hK K
  refine norm_ (by show Act.put _ (some 75) _ = _; simp only [Act.put, sa_, s0_, s1_, i64_w, i32_w]; rfl) ?_
  refine on_ 2 (some 76) HT_ rfl rfl (fun K hK => ?_)
  have hcv := own_string (P := Try.prog) Try.underlying49 Try.underlying5 Try.underlying9 (Kd.own_of_R HW5.out)
  refine value_ (w1 := ?_) (v := ?_) (by rfl) rfl ?_ ?_
  rotate_left 2
  · go_simp
    constructor
    rotate_left
    · rfl
    rfl
  clear hcv
  refine hK.out _ _ (bc5 BO) (fun hHeld => ?_)
  clear hK K
  refine norm_ (by show Act.put _ (some 76) _ = _; simp only [Act.put, sa_, s0_, s1_, i64_w, i32_w]; rfl) ?_
  refine on_ 3 (some 77) HT_ rfl rfl (fun K hK => ?_)
  refine goes_ Try.func33 (by kernel_rfl) rfl #[.agg #[.slice A su.length c0, .slice B 0 c1, .int .i64 3, .int .i64 1, .int .i64 5], .string (strOfNums (List.replicate (Int.toNat 65) 0)), .bool true] (by rfl) rfl rfl (by (try simp only [List.map_toArray, List.map_cons, List.map_nil]) <;> rfl) ?_
  refine (vault_Keep.calls _ _ su _ _ [] 3 1 5 (strOfNums (List.replicate 65 0)) true su [] 3 1 5 2 _ HC.out hl HD.out (Nat.zero_le _) he).mono ?_
  rintro e W6 ⟨v0, v1, rfl, h0, h1, hb⟩
  obtain ⟨Ar, cr, e0⟩ := Kd.R_slice h0
  subst e0
  obtain ⟨Br, dr, e1⟩ := Kd.R_slice h1
  subst e1
  clear h0 h1
  refine ⟨_, rfl, ?_⟩
  have n0_ := am (below_step HB.out hb); have n1_ := am (blk_same BO.out hb); have n2_ := am (Kd.C_below HC.out hb); have n3_ := am (Kd.C_below HD.out hb); have n4_ := am (blk_same B22.out hb); have n5_ := am (Kd.R_below HW5.out hb); clear HB BO HC HD B22 HW5; have HB := n0_; have BO := n1_; have HC := n2_; have HD := n3_; have B22 := n4_; have HW5 := n5_; clear n0_ n1_ n2_ n3_ n4_ n5_
  clear hb
  refine hK.out _ _ (bc5 BO) (fun hHeld => ?_)
  clear hK K
  refine norm_ (by show Act.put _ (some 77) _ = _; simp only [Act.put, sa_, s0_, s1_, i64_w, i32_w]; rfl) ?_
  refine pu_ 4 (some 73) HT_ rfl rfl (.inl ⟨by rfl, by intro w'; go_simp; with_reducible rfl⟩) (by simp only [Act.put, sa_, s0_, s1_, i64_w, i32_w]; rfl) ?_ (by kernel_rfl) (fun c a w h => hp c a _ _ w h)
  refine pu_ 5 (some 78) HT_ rfl rfl (.inl ⟨by rfl, by intro w'; go_simp; with_reducible rfl⟩) (by simp only [Act.put, sa_, s0_, s1_, i64_w, i32_w]; rfl) ?_ (by kernel_rfl) (fun c a w h => hp c a _ _ w h)
  refine pu_ 6 (some 79) HT_ rfl rfl (.inl ⟨by rfl, by intro w'; go_simp; with_reducible rfl⟩) (by simp only [Act.put, sa_, s0_, s1_, i64_w, i32_w]; rfl) ?_ (by kernel_rfl) (fun c a w h => hp c a _ _ w h)
  refine la_ 8 none HT_ rfl rfl (fun K hK => ?_)
  have hc0 := (blk_cell B22.out 0).trans rfl; have hf0 := blk_frozen B22.out 0
  have hc1 := (blk_cell B22.out 1).trans rfl; have hf1 := blk_frozen B22.out 1
  have hc2 := (blk_cell B22.out 2).trans rfl; have hf2 := blk_frozen B22.out 2
  have hc3 := (blk_cell B22.out 3).trans rfl; have hf3 := blk_frozen B22.out 3
  have hc4 := (blk_cell B22.out 4).trans rfl; have hf4 := blk_frozen B22.out 4
  refine skip_ (by rfl) rfl (by go_simp; rfl) ?_
  clear hc0 hc1 hc2 hc3 hc4 hf0 hf1 hf2 hf3 hf4
  refine hK.out _ _ ?_
  clear hK K
  refine pu_ 9 (some 23) HT_ rfl rfl (.inl ⟨by rfl, by intro w'; go_simp; with_reducible rfl⟩) (by simp only [Act.put, sa_, s0_, s1_, i64_w, i32_w]; rfl) ?_ (by kernel_rfl) (fun c a w h => hp c a _ _ w h)
  refine done_ (done_of HT_.out (by kernel_rfl)) ?_
  exact hQ g22 _ _ _ _ _ _ _ _ (below_set (below_set (below_set (below_set (below_set HB.out l22) l22) l22) l22) l22)
set_option maxHeartbeats 8000000 in
theorem awake_walk {a0 a1 a2 a3 a5 : List ByteArray} {ml : List S24} (e0 : columbariumref14_New.f 600 4 = some (a0, [], 0)) (e1 : vault_Format.f 100 a0 [] = some (a1, [], 0, 0, 0, 0)) (e2 : vault_Keep.f a1 [] 0 0 0 ⟨#[115, 111, 109, 101]⟩ false = some (a2, [], 1, 0, 4, 0))
    (e3 : vault_Keep.f a2 [] 1 0 4 ⟨#[32, 116, 101, 120, 116]⟩ false = some (a3, [], 2, 0, 9, 0)) (e4 : vault_Open.f a3 [] = some (a3, [], 2, 0, 9, ⟨#[115, 111, 109, 101, 32, 116, 101, 120, 116]⟩, 0)) (e5 : vault_Keep.f a3 [] 2 0 9 ⟨#[111, 116, 104, 101, 114]⟩ true = some (a5, [], 3, 1, 5, 0)) (e6 : vault_Open.f a5 [] = some (a5, [], 3, 1, 5, ⟨#[111, 116, 104, 101, 114]⟩, 0))
    (e7 : vault_Moves.f a1 [] 0 0 0 ⟨#[97]⟩ false = some (ml, 0)) (e7l : ml.length = 5) (e8 : vault_Open.f a0 [] = some (a0, [], 0, 0, 0, ⟨#[]⟩, 25)) (e9 : vault_Keep.f a5 [] 3 1 5 (strOfNums (List.replicate 65 0)) true = some (a5, [], 3, 1, 5, 2)) (e10 : vault_Room.f a1 [] 0 0 0 = some 64) (e11 : vault_Right.f a5 [] 3 1 5 = some true) (w : World) :
    Calls Try.prog 28 #[] w fun e w' => e = .returned (.bool true) ∧ Below w.heap.size w w' := by
  have WB := am (Below.refl w.heap.size w)
  go_enter Try.func28, Try.ntmps28
  go_wp2_with fail
  refine (columbariumref14_New.calls 600 4 a0 [] 0 _ e0).mono ?_
  rintro e W0 ⟨v0, v1, rfl, h0, h1, hb⟩
  obtain ⟨A0, c0, e0⟩ := Kd.R_slice h0
  subst e0
  obtain ⟨B0, d0, e1⟩ := Kd.R_slice h1
  subst e1
  have w_ := am (below_step WB.out hb)
  clear WB
  have WB := w_
  clear w_
  have C0 := am (Kd.R_reads' h0).2.2; have D0 := am (Kd.R_reads' h1).2.2; have L0 := (Kd.R_reads' h0).2.1
  simp only [List.length_nil] at D0
  clear h0 h1 hb
  go_wp2_with fail
  generalize hX : World.alloc W0 _ = X0
  have n_ := am (show X0.heap[W0.heap.size]? = some (.cells #[.slice A0 a0.length c0, .slice B0 0 d0] 30 (0, 0)) by rw [← hX]; exact heap_alloc_new W0 _)
  have hb : Below W0.heap.size W0 X0 := by rw [← hX]; exact below_alloc (Below.refl _ _) _
  clear hX
  have c0_ := am (Kd.C_below C0.out hb); have d0_ := am (Kd.C_below D0.out hb)
  have w_ := am (below_step WB.out hb)
  clear C0 D0 WB
  have C0 := c0_; have D0 := d0_
  have WB := w_
  clear c0_ d0_ w_
  have Vb1 := n_; clear n_ hb
  refine (vault_Format.calls 100 _ _ a0 _ _ [] a1 [] 0 0 0 0 _ C0.out L0 D0.out (Nat.zero_le _) e1).mono ?_
  rintro e W1 ⟨v0, v1, rfl, h0, h1, hb⟩
  obtain ⟨A1, c1, e0⟩ := Kd.R_slice h0
  subst e0
  obtain ⟨B1, d1, e1⟩ := Kd.R_slice h1
  subst e1
  have mb1_ := am (blk_same Vb1.out hb)
  have c0_ := am (Kd.C_below C0.out hb); have d0_ := am (Kd.C_below D0.out hb)
  have w_ := am (below_step WB.out hb)
  clear Vb1 C0 D0 WB
  have Vb1 := mb1_
  have C0 := c0_; have D0 := d0_
  have WB := w_
  clear mb1_ c0_ d0_ w_
  have C1 := am (Kd.R_reads' h0).2.2; have D1 := am (Kd.R_reads' h1).2.2; have L1 := (Kd.R_reads' h0).2.1
  simp only [List.length_nil] at D1
  clear h0 h1 hb
  go_wp2_with fail
  generalize hX : World.alloc W1 _ = X1
  have n_ := am (show X1.heap[W1.heap.size]? = some (.cells #[.slice A1 a1.length c1, .slice B1 0 d1, .int .i64 0, .int .i64 0, .int .i64 0] 56 (0, 0)) by rw [← hX]; exact heap_alloc_new W1 _)
  have hb : Below W1.heap.size W1 X1 := by rw [← hX]; exact below_alloc (Below.refl _ _) _
  clear hX
  have mb1_ := am (blk_same Vb1.out hb)
  have c0_ := am (Kd.C_below C0.out hb); have d0_ := am (Kd.C_below D0.out hb)
  have c1_ := am (Kd.C_below C1.out hb); have d1_ := am (Kd.C_below D1.out hb)
  have w_ := am (below_step WB.out hb)
  clear Vb1 C0 D0 C1 D1 WB
  have Vb1 := mb1_
  have C0 := c0_; have D0 := d0_
  have C1 := c1_; have D1 := d1_
  have WB := w_
  clear mb1_ c0_ d0_ c1_ d1_ w_
  have Vb3 := n_; clear n_ hb
  refine (vault_Keep.calls _ _ a1 _ _ [] 0 0 0 ⟨#[115, 111, 109, 101]⟩ false a2 [] 1 0 4 0 _ C1.out L1 D1.out (Nat.zero_le _) e2).mono ?_
  rintro e W2 ⟨v0, v1, rfl, h0, h1, hb⟩
  obtain ⟨A2, c2, e0⟩ := Kd.R_slice h0
  subst e0
  obtain ⟨B2, d2, e1⟩ := Kd.R_slice h1
  subst e1
  have mb1_ := am (blk_same Vb1.out hb)
  have mb3_ := am (blk_same Vb3.out hb)
  have c0_ := am (Kd.C_below C0.out hb); have d0_ := am (Kd.C_below D0.out hb)
  have c1_ := am (Kd.C_below C1.out hb); have d1_ := am (Kd.C_below D1.out hb)
  have w_ := am (below_step WB.out hb)
  clear Vb1 Vb3 C0 D0 C1 D1 WB
  have Vb1 := mb1_
  have Vb3 := mb3_
  have C0 := c0_; have D0 := d0_
  have C1 := c1_; have D1 := d1_
  have WB := w_
  clear mb1_ mb3_ c0_ d0_ c1_ d1_ w_
  have C2 := am (Kd.R_reads' h0).2.2; have D2 := am (Kd.R_reads' h1).2.2; have L2 := (Kd.R_reads' h0).2.1
  simp only [List.length_nil] at D2
  clear h0 h1 hb
  go_wp2_with fail
  generalize hX : World.alloc W2 _ = X2
  have n_ := am (show X2.heap[W2.heap.size]? = some (.cells #[.slice A2 a2.length c2, .slice B2 0 d2, .int .i64 1, .int .i64 0, .int .i64 4] 56 (0, 0)) by rw [← hX]; exact heap_alloc_new W2 _)
  have hb : Below W2.heap.size W2 X2 := by rw [← hX]; exact below_alloc (Below.refl _ _) _
  clear hX
  have mb1_ := am (blk_same Vb1.out hb)
  have mb3_ := am (blk_same Vb3.out hb)
  have c0_ := am (Kd.C_below C0.out hb); have d0_ := am (Kd.C_below D0.out hb)
  have c1_ := am (Kd.C_below C1.out hb); have d1_ := am (Kd.C_below D1.out hb)
  have c2_ := am (Kd.C_below C2.out hb); have d2_ := am (Kd.C_below D2.out hb)
  have w_ := am (below_step WB.out hb)
  clear Vb1 Vb3 C0 D0 C1 D1 C2 D2 WB
  have Vb1 := mb1_
  have Vb3 := mb3_
  have C0 := c0_; have D0 := d0_
  have C1 := c1_; have D1 := d1_
  have C2 := c2_; have D2 := d2_
  have WB := w_
  clear mb1_ mb3_ c0_ d0_ c1_ d1_ c2_ d2_ w_
  have Vb5 := n_; clear n_ hb
  refine (vault_Keep.calls _ _ a2 _ _ [] 1 0 4 ⟨#[32, 116, 101, 120, 116]⟩ false a3 [] 2 0 9 0 _ C2.out L2 D2.out (Nat.zero_le _) e3).mono ?_
  rintro e W3 ⟨v0, v1, rfl, h0, h1, hb⟩
  obtain ⟨A3, c3, e0⟩ := Kd.R_slice h0
  subst e0
  obtain ⟨B3, d3, e1⟩ := Kd.R_slice h1
  subst e1
  have mb1_ := am (blk_same Vb1.out hb)
  have mb3_ := am (blk_same Vb3.out hb)
  have mb5_ := am (blk_same Vb5.out hb)
  have c0_ := am (Kd.C_below C0.out hb); have d0_ := am (Kd.C_below D0.out hb)
  have c1_ := am (Kd.C_below C1.out hb); have d1_ := am (Kd.C_below D1.out hb)
  have c2_ := am (Kd.C_below C2.out hb); have d2_ := am (Kd.C_below D2.out hb)
  have w_ := am (below_step WB.out hb)
  clear Vb1 Vb3 Vb5 C0 D0 C1 D1 C2 D2 WB
  have Vb1 := mb1_
  have Vb3 := mb3_
  have Vb5 := mb5_
  have C0 := c0_; have D0 := d0_
  have C1 := c1_; have D1 := d1_
  have C2 := c2_; have D2 := d2_
  have WB := w_
  clear mb1_ mb3_ mb5_ c0_ d0_ c1_ d1_ c2_ d2_ w_
  have C3 := am (Kd.R_reads' h0).2.2; have D3 := am (Kd.R_reads' h1).2.2; have L3 := (Kd.R_reads' h0).2.1
  simp only [List.length_nil] at D3
  clear h0 h1 hb
  go_wp2_with fail
  generalize hX : World.alloc W3 _ = X3
  have n_ := am (show X3.heap[W3.heap.size]? = some (.cells #[.slice A3 a3.length c3, .slice B3 0 d3, .int .i64 2, .int .i64 0, .int .i64 9] 56 (0, 0)) by rw [← hX]; exact heap_alloc_new W3 _)
  have hb : Below W3.heap.size W3 X3 := by rw [← hX]; exact below_alloc (Below.refl _ _) _
  clear hX
  have mb1_ := am (blk_same Vb1.out hb)
  have mb3_ := am (blk_same Vb3.out hb)
  have mb5_ := am (blk_same Vb5.out hb)
  have c0_ := am (Kd.C_below C0.out hb); have d0_ := am (Kd.C_below D0.out hb)
  have c1_ := am (Kd.C_below C1.out hb); have d1_ := am (Kd.C_below D1.out hb)
  have c2_ := am (Kd.C_below C2.out hb); have d2_ := am (Kd.C_below D2.out hb)
  have c3_ := am (Kd.C_below C3.out hb); have d3_ := am (Kd.C_below D3.out hb)
  have w_ := am (below_step WB.out hb)
  clear Vb1 Vb3 Vb5 C0 D0 C1 D1 C2 D2 C3 D3 WB
  have Vb1 := mb1_
  have Vb3 := mb3_
  have Vb5 := mb5_
  have C0 := c0_; have D0 := d0_
  have C1 := c1_; have D1 := d1_
  have C2 := c2_; have D2 := d2_
  have C3 := c3_; have D3 := d3_
  have WB := w_
  clear mb1_ mb3_ mb5_ c0_ d0_ c1_ d1_ c2_ d2_ c3_ d3_ w_
  have Vb7 := n_; clear n_ hb
  refine (vault_Open.calls _ _ a3 _ _ [] a3 [] 2 0 9 ⟨#[115, 111, 109, 101, 32, 116, 101, 120, 116]⟩ 0 _ C3.out L3 D3.out (Nat.zero_le _) e4).mono ?_
  rintro e W4 ⟨v0, v1, rfl, h0, h1, hb⟩
  obtain ⟨A4, c4, e0⟩ := Kd.R_slice h0
  subst e0
  obtain ⟨B4, d4, e1⟩ := Kd.R_slice h1
  subst e1
  have mb1_ := am (blk_same Vb1.out hb)
  have mb3_ := am (blk_same Vb3.out hb)
  have mb5_ := am (blk_same Vb5.out hb)
  have mb7_ := am (blk_same Vb7.out hb)
  have c0_ := am (Kd.C_below C0.out hb); have d0_ := am (Kd.C_below D0.out hb)
  have c1_ := am (Kd.C_below C1.out hb); have d1_ := am (Kd.C_below D1.out hb)
  have c2_ := am (Kd.C_below C2.out hb); have d2_ := am (Kd.C_below D2.out hb)
  have c3_ := am (Kd.C_below C3.out hb); have d3_ := am (Kd.C_below D3.out hb)
  have w_ := am (below_step WB.out hb)
  clear Vb1 Vb3 Vb5 Vb7 C0 D0 C1 D1 C2 D2 C3 D3 WB
  have Vb1 := mb1_
  have Vb3 := mb3_
  have Vb5 := mb5_
  have Vb7 := mb7_
  have C0 := c0_; have D0 := d0_
  have C1 := c1_; have D1 := d1_
  have C2 := c2_; have D2 := d2_
  have C3 := c3_; have D3 := d3_
  have WB := w_
  clear mb1_ mb3_ mb5_ mb7_ c0_ d0_ c1_ d1_ c2_ d2_ c3_ d3_ w_
  have C4 := am (Kd.R_reads' h0).2.2; have D4 := am (Kd.R_reads' h1).2.2; have L4 := (Kd.R_reads' h0).2.1
  simp only [List.length_nil] at D4
  clear h0 h1 hb
  go_wp2_with fail
  generalize hX : World.alloc W4 _ = X4
  have n_ := am (show X4.heap[W4.heap.size]? = some (.cells #[.slice A4 a3.length c4, .slice B4 0 d4, .int .i64 2, .int .i64 0, .int .i64 9] 56 (0, 0)) by rw [← hX]; exact heap_alloc_new W4 _)
  have hb : Below W4.heap.size W4 X4 := by rw [← hX]; exact below_alloc (Below.refl _ _) _
  clear hX
  have mb1_ := am (blk_same Vb1.out hb)
  have mb3_ := am (blk_same Vb3.out hb)
  have mb5_ := am (blk_same Vb5.out hb)
  have mb7_ := am (blk_same Vb7.out hb)
  have c0_ := am (Kd.C_below C0.out hb); have d0_ := am (Kd.C_below D0.out hb)
  have c1_ := am (Kd.C_below C1.out hb); have d1_ := am (Kd.C_below D1.out hb)
  have c2_ := am (Kd.C_below C2.out hb); have d2_ := am (Kd.C_below D2.out hb)
  have c3_ := am (Kd.C_below C3.out hb); have d3_ := am (Kd.C_below D3.out hb)
  have c4_ := am (Kd.C_below C4.out hb); have d4_ := am (Kd.C_below D4.out hb)
  have w_ := am (below_step WB.out hb)
  clear Vb1 Vb3 Vb5 Vb7 C0 D0 C1 D1 C2 D2 C3 D3 C4 D4 WB
  have Vb1 := mb1_
  have Vb3 := mb3_
  have Vb5 := mb5_
  have Vb7 := mb7_
  have C0 := c0_; have D0 := d0_
  have C1 := c1_; have D1 := d1_
  have C2 := c2_; have D2 := d2_
  have C3 := c3_; have D3 := d3_
  have C4 := c4_; have D4 := d4_
  have WB := w_
  clear mb1_ mb3_ mb5_ mb7_ c0_ d0_ c1_ d1_ c2_ d2_ c3_ d3_ c4_ d4_ w_
  have Vb9 := n_; clear n_ hb
  refine (vault_Keep.calls _ _ a3 _ _ [] 2 0 9 ⟨#[111, 116, 104, 101, 114]⟩ true a5 [] 3 1 5 0 _ C4.out L4 D4.out (Nat.zero_le _) e5).mono ?_
  rintro e W5 ⟨v0, v1, rfl, h0, h1, hb⟩
  obtain ⟨A5, c5, e0⟩ := Kd.R_slice h0
  subst e0
  obtain ⟨B5, d5, e1⟩ := Kd.R_slice h1
  subst e1
  have mb1_ := am (blk_same Vb1.out hb)
  have mb3_ := am (blk_same Vb3.out hb)
  have mb5_ := am (blk_same Vb5.out hb)
  have mb7_ := am (blk_same Vb7.out hb)
  have mb9_ := am (blk_same Vb9.out hb)
  have c0_ := am (Kd.C_below C0.out hb); have d0_ := am (Kd.C_below D0.out hb)
  have c1_ := am (Kd.C_below C1.out hb); have d1_ := am (Kd.C_below D1.out hb)
  have c2_ := am (Kd.C_below C2.out hb); have d2_ := am (Kd.C_below D2.out hb)
  have c3_ := am (Kd.C_below C3.out hb); have d3_ := am (Kd.C_below D3.out hb)
  have c4_ := am (Kd.C_below C4.out hb); have d4_ := am (Kd.C_below D4.out hb)
  have w_ := am (below_step WB.out hb)
  clear Vb1 Vb3 Vb5 Vb7 Vb9 C0 D0 C1 D1 C2 D2 C3 D3 C4 D4 WB
  have Vb1 := mb1_
  have Vb3 := mb3_
  have Vb5 := mb5_
  have Vb7 := mb7_
  have Vb9 := mb9_
  have C0 := c0_; have D0 := d0_
  have C1 := c1_; have D1 := d1_
  have C2 := c2_; have D2 := d2_
  have C3 := c3_; have D3 := d3_
  have C4 := c4_; have D4 := d4_
  have WB := w_
  clear mb1_ mb3_ mb5_ mb7_ mb9_ c0_ d0_ c1_ d1_ c2_ d2_ c3_ d3_ c4_ d4_ w_
  have C5 := am (Kd.R_reads' h0).2.2; have D5 := am (Kd.R_reads' h1).2.2; have L5 := (Kd.R_reads' h0).2.1
  simp only [List.length_nil] at D5
  clear h0 h1 hb
  go_wp2_with fail
  generalize hX : World.alloc W5 _ = X5
  have n_ := am (show X5.heap[W5.heap.size]? = some (.cells #[.slice A5 a5.length c5, .slice B5 0 d5, .int .i64 3, .int .i64 1, .int .i64 5] 56 (0, 0)) by rw [← hX]; exact heap_alloc_new W5 _)
  have hb : Below W5.heap.size W5 X5 := by rw [← hX]; exact below_alloc (Below.refl _ _) _
  clear hX
  have mb1_ := am (blk_same Vb1.out hb)
  have mb3_ := am (blk_same Vb3.out hb)
  have mb5_ := am (blk_same Vb5.out hb)
  have mb7_ := am (blk_same Vb7.out hb)
  have mb9_ := am (blk_same Vb9.out hb)
  have c0_ := am (Kd.C_below C0.out hb); have d0_ := am (Kd.C_below D0.out hb)
  have c1_ := am (Kd.C_below C1.out hb); have d1_ := am (Kd.C_below D1.out hb)
  have c2_ := am (Kd.C_below C2.out hb); have d2_ := am (Kd.C_below D2.out hb)
  have c3_ := am (Kd.C_below C3.out hb); have d3_ := am (Kd.C_below D3.out hb)
  have c4_ := am (Kd.C_below C4.out hb); have d4_ := am (Kd.C_below D4.out hb)
  have c5_ := am (Kd.C_below C5.out hb); have d5_ := am (Kd.C_below D5.out hb)
  have w_ := am (below_step WB.out hb)
  clear Vb1 Vb3 Vb5 Vb7 Vb9 C0 D0 C1 D1 C2 D2 C3 D3 C4 D4 C5 D5 WB
  have Vb1 := mb1_
  have Vb3 := mb3_
  have Vb5 := mb5_
  have Vb7 := mb7_
  have Vb9 := mb9_
  have C0 := c0_; have D0 := d0_
  have C1 := c1_; have D1 := d1_
  have C2 := c2_; have D2 := d2_
  have C3 := c3_; have D3 := d3_
  have C4 := c4_; have D4 := d4_
  have C5 := c5_; have D5 := d5_
  have WB := w_
  clear mb1_ mb3_ mb5_ mb7_ mb9_ c0_ d0_ c1_ d1_ c2_ d2_ c3_ d3_ c4_ d4_ c5_ d5_ w_
  have Vb12 := n_; clear n_ hb
  refine (vault_Open.calls _ _ a5 _ _ [] a5 [] 3 1 5 ⟨#[111, 116, 104, 101, 114]⟩ 0 _ C5.out L5 D5.out (Nat.zero_le _) e6).mono ?_
  rintro e W6 ⟨v0, v1, rfl, h0, h1, hb⟩
  obtain ⟨A6, c6, e0⟩ := Kd.R_slice h0
  subst e0
  obtain ⟨B6, d6, e1⟩ := Kd.R_slice h1
  subst e1
  have mb1_ := am (blk_same Vb1.out hb)
  have mb3_ := am (blk_same Vb3.out hb)
  have mb5_ := am (blk_same Vb5.out hb)
  have mb7_ := am (blk_same Vb7.out hb)
  have mb9_ := am (blk_same Vb9.out hb)
  have mb12_ := am (blk_same Vb12.out hb)
  have c0_ := am (Kd.C_below C0.out hb); have d0_ := am (Kd.C_below D0.out hb)
  have c1_ := am (Kd.C_below C1.out hb); have d1_ := am (Kd.C_below D1.out hb)
  have c2_ := am (Kd.C_below C2.out hb); have d2_ := am (Kd.C_below D2.out hb)
  have c3_ := am (Kd.C_below C3.out hb); have d3_ := am (Kd.C_below D3.out hb)
  have c4_ := am (Kd.C_below C4.out hb); have d4_ := am (Kd.C_below D4.out hb)
  have c5_ := am (Kd.C_below C5.out hb); have d5_ := am (Kd.C_below D5.out hb)
  have w_ := am (below_step WB.out hb)
  clear Vb1 Vb3 Vb5 Vb7 Vb9 Vb12 C0 D0 C1 D1 C2 D2 C3 D3 C4 D4 C5 D5 WB
  have Vb1 := mb1_
  have Vb3 := mb3_
  have Vb5 := mb5_
  have Vb7 := mb7_
  have Vb9 := mb9_
  have Vb12 := mb12_
  have C0 := c0_; have D0 := d0_
  have C1 := c1_; have D1 := d1_
  have C2 := c2_; have D2 := d2_
  have C3 := c3_; have D3 := d3_
  have C4 := c4_; have D4 := d4_
  have C5 := c5_; have D5 := d5_
  have WB := w_
  clear mb1_ mb3_ mb5_ mb7_ mb9_ mb12_ c0_ d0_ c1_ d1_ c2_ d2_ c3_ d3_ c4_ d4_ c5_ d5_ w_
  have C6 := am (Kd.R_reads' h0).2.2; have D6 := am (Kd.R_reads' h1).2.2; have L6 := (Kd.R_reads' h0).2.1
  simp only [List.length_nil] at D6
  clear h0 h1 hb
  have k_0 := (blk_cell (bkA Vb3.out (.cells #[.slice A6 a5.length c6, .slice B6 0 d6, .int .i64 3, .int .i64 1, .int .i64 5] 56 (0, 0))) 0).trans rfl
  have k_1 := (blk_cell (bkA Vb3.out (.cells #[.slice A6 a5.length c6, .slice B6 0 d6, .int .i64 3, .int .i64 1, .int .i64 5] 56 (0, 0))) 1).trans rfl
  have k_2 := (blk_cell (bkA Vb3.out (.cells #[.slice A6 a5.length c6, .slice B6 0 d6, .int .i64 3, .int .i64 1, .int .i64 5] 56 (0, 0))) 2).trans rfl
  have k_3 := (blk_cell (bkA Vb3.out (.cells #[.slice A6 a5.length c6, .slice B6 0 d6, .int .i64 3, .int .i64 1, .int .i64 5] 56 (0, 0))) 3).trans rfl
  have k_4 := (blk_cell (bkA Vb3.out (.cells #[.slice A6 a5.length c6, .slice B6 0 d6, .int .i64 3, .int .i64 1, .int .i64 5] 56 (0, 0))) 4).trans rfl
  go_wp2_with fail
  clear k_0 k_1 k_2 k_3 k_4
  generalize hX : World.alloc W6 _ = X6
  have n_ := am (show X6.heap[W6.heap.size]? = some (.cells #[.slice A6 a5.length c6, .slice B6 0 d6, .int .i64 3, .int .i64 1, .int .i64 5] 56 (0, 0)) by rw [← hX]; exact heap_alloc_new W6 _)
  have hb : Below W6.heap.size W6 X6 := by rw [← hX]; exact below_alloc (Below.refl _ _) _
  clear hX
  have mb1_ := am (blk_same Vb1.out hb)
  have mb3_ := am (blk_same Vb3.out hb)
  have mb5_ := am (blk_same Vb5.out hb)
  have mb7_ := am (blk_same Vb7.out hb)
  have mb9_ := am (blk_same Vb9.out hb)
  have mb12_ := am (blk_same Vb12.out hb)
  have c0_ := am (Kd.C_below C0.out hb); have d0_ := am (Kd.C_below D0.out hb)
  have c1_ := am (Kd.C_below C1.out hb); have d1_ := am (Kd.C_below D1.out hb)
  have c2_ := am (Kd.C_below C2.out hb); have d2_ := am (Kd.C_below D2.out hb)
  have c3_ := am (Kd.C_below C3.out hb); have d3_ := am (Kd.C_below D3.out hb)
  have c4_ := am (Kd.C_below C4.out hb); have d4_ := am (Kd.C_below D4.out hb)
  have c5_ := am (Kd.C_below C5.out hb); have d5_ := am (Kd.C_below D5.out hb)
  have c6_ := am (Kd.C_below C6.out hb); have d6_ := am (Kd.C_below D6.out hb)
  have w_ := am (below_step WB.out hb)
  clear Vb1 Vb3 Vb5 Vb7 Vb9 Vb12 C0 D0 C1 D1 C2 D2 C3 D3 C4 D4 C5 D5 C6 D6 WB
  have Vb1 := mb1_
  have Vb3 := mb3_
  have Vb5 := mb5_
  have Vb7 := mb7_
  have Vb9 := mb9_
  have Vb12 := mb12_
  have C0 := c0_; have D0 := d0_
  have C1 := c1_; have D1 := d1_
  have C2 := c2_; have D2 := d2_
  have C3 := c3_; have D3 := d3_
  have C4 := c4_; have D4 := d4_
  have C5 := c5_; have D5 := d5_
  have C6 := c6_; have D6 := d6_
  have WB := w_
  clear mb1_ mb3_ mb5_ mb7_ mb9_ mb12_ c0_ d0_ c1_ d1_ c2_ d2_ c3_ d3_ c4_ d4_ c5_ d5_ c6_ d6_ w_
  have Vb14 := n_; clear n_ hb
  refine (vault_Moves.calls _ _ a1 _ _ [] 0 0 0 ⟨#[97]⟩ false ml 0 _ C1.out L1 D1.out (Nat.zero_le _) e7).mono ?_
  rintro e W7 ⟨v0, rfl, h0, hb⟩
  obtain ⟨A7, c7, e0⟩ := Kd.R_slice h0
  subst e0
  rw [e7l]
  have mb1_ := am (blk_same Vb1.out hb)
  have mb3_ := am (blk_same Vb3.out hb)
  have mb5_ := am (blk_same Vb5.out hb)
  have mb7_ := am (blk_same Vb7.out hb)
  have mb9_ := am (blk_same Vb9.out hb)
  have mb12_ := am (blk_same Vb12.out hb)
  have mb14_ := am (blk_same Vb14.out hb)
  have c0_ := am (Kd.C_below C0.out hb); have d0_ := am (Kd.C_below D0.out hb)
  have c1_ := am (Kd.C_below C1.out hb); have d1_ := am (Kd.C_below D1.out hb)
  have c2_ := am (Kd.C_below C2.out hb); have d2_ := am (Kd.C_below D2.out hb)
  have c3_ := am (Kd.C_below C3.out hb); have d3_ := am (Kd.C_below D3.out hb)
  have c4_ := am (Kd.C_below C4.out hb); have d4_ := am (Kd.C_below D4.out hb)
  have c5_ := am (Kd.C_below C5.out hb); have d5_ := am (Kd.C_below D5.out hb)
  have c6_ := am (Kd.C_below C6.out hb); have d6_ := am (Kd.C_below D6.out hb)
  have w_ := am (below_step WB.out hb)
  clear Vb1 Vb3 Vb5 Vb7 Vb9 Vb12 Vb14 C0 D0 C1 D1 C2 D2 C3 D3 C4 D4 C5 D5 C6 D6 WB
  have Vb1 := mb1_
  have Vb3 := mb3_
  have Vb5 := mb5_
  have Vb7 := mb7_
  have Vb9 := mb9_
  have Vb12 := mb12_
  have Vb14 := mb14_
  have C0 := c0_; have D0 := d0_
  have C1 := c1_; have D1 := d1_
  have C2 := c2_; have D2 := d2_
  have C3 := c3_; have D3 := d3_
  have C4 := c4_; have D4 := d4_
  have C5 := c5_; have D5 := d5_
  have C6 := c6_; have D6 := d6_
  have WB := w_
  clear mb1_ mb3_ mb5_ mb7_ mb9_ mb12_ mb14_ c0_ d0_ c1_ d1_ c2_ d2_ c3_ d3_ c4_ d4_ c5_ d5_ c6_ d6_ w_
  clear h0 hb
  have kb1_0 := (blk_cell Vb1.out 0).trans rfl
  have kb1_1 := (blk_cell Vb1.out 1).trans rfl
  go_wp2_with fail
  clear kb1_0 kb1_1
  refine (vault_Open.calls _ _ a0 _ _ [] a0 [] 0 0 0 ⟨#[]⟩ 25 _ C0.out L0 D0.out (Nat.zero_le _) e8).mono ?_
  rintro e W8 ⟨v0, v1, rfl, h0, h1, hb⟩
  obtain ⟨A8, c8, e0⟩ := Kd.R_slice h0
  subst e0
  obtain ⟨B8, d8, e1⟩ := Kd.R_slice h1
  subst e1
  have mb1_ := am (blk_same Vb1.out hb)
  have mb3_ := am (blk_same Vb3.out hb)
  have mb5_ := am (blk_same Vb5.out hb)
  have mb7_ := am (blk_same Vb7.out hb)
  have mb9_ := am (blk_same Vb9.out hb)
  have mb12_ := am (blk_same Vb12.out hb)
  have mb14_ := am (blk_same Vb14.out hb)
  have c0_ := am (Kd.C_below C0.out hb); have d0_ := am (Kd.C_below D0.out hb)
  have c1_ := am (Kd.C_below C1.out hb); have d1_ := am (Kd.C_below D1.out hb)
  have c2_ := am (Kd.C_below C2.out hb); have d2_ := am (Kd.C_below D2.out hb)
  have c3_ := am (Kd.C_below C3.out hb); have d3_ := am (Kd.C_below D3.out hb)
  have c4_ := am (Kd.C_below C4.out hb); have d4_ := am (Kd.C_below D4.out hb)
  have c5_ := am (Kd.C_below C5.out hb); have d5_ := am (Kd.C_below D5.out hb)
  have c6_ := am (Kd.C_below C6.out hb); have d6_ := am (Kd.C_below D6.out hb)
  have w_ := am (below_step WB.out hb)
  clear Vb1 Vb3 Vb5 Vb7 Vb9 Vb12 Vb14 C0 D0 C1 D1 C2 D2 C3 D3 C4 D4 C5 D5 C6 D6 WB
  have Vb1 := mb1_
  have Vb3 := mb3_
  have Vb5 := mb5_
  have Vb7 := mb7_
  have Vb9 := mb9_
  have Vb12 := mb12_
  have Vb14 := mb14_
  have C0 := c0_; have D0 := d0_
  have C1 := c1_; have D1 := d1_
  have C2 := c2_; have D2 := d2_
  have C3 := c3_; have D3 := d3_
  have C4 := c4_; have D4 := d4_
  have C5 := c5_; have D5 := d5_
  have C6 := c6_; have D6 := d6_
  have WB := w_
  clear mb1_ mb3_ mb5_ mb7_ mb9_ mb12_ mb14_ c0_ d0_ c1_ d1_ c2_ d2_ c3_ d3_ c4_ d4_ c5_ d5_ c6_ d6_ w_
  have C8 := am (Kd.R_reads' h0).2.2; have D8 := am (Kd.R_reads' h1).2.2; have L8 := (Kd.R_reads' h0).2.1
  simp only [List.length_nil] at D8
  clear h0 h1 hb
  go_wp2_with fail
  generalize hX : World.alloc W8 _ = X8
  have n_ := am (show X8.heap[W8.heap.size]? = some (.cells #[.slice A8 a0.length c8, .slice B8 0 d8, .int .i64 0, .int .i64 0, .int .i64 0] 56 (0, 0)) by rw [← hX]; exact heap_alloc_new W8 _)
  have hb : Below W8.heap.size W8 X8 := by rw [← hX]; exact below_alloc (Below.refl _ _) _
  clear hX
  have mb1_ := am (blk_same Vb1.out hb)
  have mb3_ := am (blk_same Vb3.out hb)
  have mb5_ := am (blk_same Vb5.out hb)
  have mb7_ := am (blk_same Vb7.out hb)
  have mb9_ := am (blk_same Vb9.out hb)
  have mb12_ := am (blk_same Vb12.out hb)
  have mb14_ := am (blk_same Vb14.out hb)
  have c0_ := am (Kd.C_below C0.out hb); have d0_ := am (Kd.C_below D0.out hb)
  have c1_ := am (Kd.C_below C1.out hb); have d1_ := am (Kd.C_below D1.out hb)
  have c2_ := am (Kd.C_below C2.out hb); have d2_ := am (Kd.C_below D2.out hb)
  have c3_ := am (Kd.C_below C3.out hb); have d3_ := am (Kd.C_below D3.out hb)
  have c4_ := am (Kd.C_below C4.out hb); have d4_ := am (Kd.C_below D4.out hb)
  have c5_ := am (Kd.C_below C5.out hb); have d5_ := am (Kd.C_below D5.out hb)
  have c6_ := am (Kd.C_below C6.out hb); have d6_ := am (Kd.C_below D6.out hb)
  have c8_ := am (Kd.C_below C8.out hb); have d8_ := am (Kd.C_below D8.out hb)
  have w_ := am (below_step WB.out hb)
  clear Vb1 Vb3 Vb5 Vb7 Vb9 Vb12 Vb14 C0 D0 C1 D1 C2 D2 C3 D3 C4 D4 C5 D5 C6 D6 C8 D8 WB
  have Vb1 := mb1_
  have Vb3 := mb3_
  have Vb5 := mb5_
  have Vb7 := mb7_
  have Vb9 := mb9_
  have Vb12 := mb12_
  have Vb14 := mb14_
  have C0 := c0_; have D0 := d0_
  have C1 := c1_; have D1 := d1_
  have C2 := c2_; have D2 := d2_
  have C3 := c3_; have D3 := d3_
  have C4 := c4_; have D4 := d4_
  have C5 := c5_; have D5 := d5_
  have C6 := c6_; have D6 := d6_
  have C8 := c8_; have D8 := d8_
  have WB := w_
  clear mb1_ mb3_ mb5_ mb7_ mb9_ mb12_ mb14_ c0_ d0_ c1_ d1_ c2_ d2_ c3_ d3_ c4_ d4_ c5_ d5_ c6_ d6_ c8_ d8_ w_
  have Vb19 := n_; clear n_ hb
  refine aw10_r (Q := _) W5.heap.size _ (by exact fun c a m v w h => h) Vb12.out C5.out L5 D5.out e9 ?_
  intro g22 v73 v74 v75 v76 v77 v78 v79 W10 hb
  have mb1_ := am (blk_same Vb1.out hb)
  have mb3_ := am (blk_same Vb3.out hb)
  have mb5_ := am (blk_same Vb5.out hb)
  have mb7_ := am (blk_same Vb7.out hb)
  have mb9_ := am (blk_same Vb9.out hb)
  have mb12_ := am (blk_same Vb12.out hb)
  have mb14_ := am (blk_same Vb14.out hb)
  have mb19_ := am (blk_same Vb19.out hb)
  have c0_ := am (Kd.C_below C0.out hb); have d0_ := am (Kd.C_below D0.out hb)
  have c1_ := am (Kd.C_below C1.out hb); have d1_ := am (Kd.C_below D1.out hb)
  have c2_ := am (Kd.C_below C2.out hb); have d2_ := am (Kd.C_below D2.out hb)
  have c3_ := am (Kd.C_below C3.out hb); have d3_ := am (Kd.C_below D3.out hb)
  have c4_ := am (Kd.C_below C4.out hb); have d4_ := am (Kd.C_below D4.out hb)
  have c5_ := am (Kd.C_below C5.out hb); have d5_ := am (Kd.C_below D5.out hb)
  have c6_ := am (Kd.C_below C6.out hb); have d6_ := am (Kd.C_below D6.out hb)
  have c8_ := am (Kd.C_below C8.out hb); have d8_ := am (Kd.C_below D8.out hb)
  have w_ := am (below_step WB.out hb)
  clear Vb1 Vb3 Vb5 Vb7 Vb9 Vb12 Vb14 Vb19 C0 D0 C1 D1 C2 D2 C3 D3 C4 D4 C5 D5 C6 D6 C8 D8 WB
  have Vb1 := mb1_
  have Vb3 := mb3_
  have Vb5 := mb5_
  have Vb7 := mb7_
  have Vb9 := mb9_
  have Vb12 := mb12_
  have Vb14 := mb14_
  have Vb19 := mb19_
  have C0 := c0_; have D0 := d0_
  have C1 := c1_; have D1 := d1_
  have C2 := c2_; have D2 := d2_
  have C3 := c3_; have D3 := d3_
  have C4 := c4_; have D4 := d4_
  have C5 := c5_; have D5 := d5_
  have C6 := c6_; have D6 := d6_
  have C8 := c8_; have D8 := d8_
  have WB := w_
  clear mb1_ mb3_ mb5_ mb7_ mb9_ mb12_ mb14_ mb19_ c0_ d0_ c1_ d1_ c2_ d2_ c3_ d3_ c4_ d4_ c5_ d5_ c6_ d6_ c8_ d8_ w_
  clear hb
  have kb3_0 := (blk_cell Vb3.out 0).trans rfl
  have kb3_1 := (blk_cell Vb3.out 1).trans rfl
  have kb3_2 := (blk_cell Vb3.out 2).trans rfl
  have kb3_3 := (blk_cell Vb3.out 3).trans rfl
  have kb3_4 := (blk_cell Vb3.out 4).trans rfl
  have kb9_0 := (blk_cell Vb9.out 0).trans rfl
  have kb9_1 := (blk_cell Vb9.out 1).trans rfl
  have kb9_2 := (blk_cell Vb9.out 2).trans rfl
  have kb9_3 := (blk_cell Vb9.out 3).trans rfl
  have kb9_4 := (blk_cell Vb9.out 4).trans rfl
  have kb12_0 := (blk_cell Vb12.out 0).trans rfl
  have kb12_1 := (blk_cell Vb12.out 1).trans rfl
  have kb12_2 := (blk_cell Vb12.out 2).trans rfl
  have kb12_3 := (blk_cell Vb12.out 3).trans rfl
  have kb12_4 := (blk_cell Vb12.out 4).trans rfl
  clear Vb1 Vb5 Vb7 Vb14 Vb19
  go_wp2_with fail
  refine (vault_Room.calls _ _ a1 _ _ [] 0 0 0 64 _ C1.out L1 D1.out (Nat.zero_le _) e10).mono ?_
  rintro e W11 ⟨rfl, hb⟩
  clear kb3_0 kb3_1 kb3_2 kb3_3 kb3_4 kb9_0 kb9_1 kb9_2 kb9_3 kb9_4 kb12_0 kb12_1 kb12_2 kb12_3 kb12_4
  have mb3_ := am (blk_same Vb3.out hb)
  have mb9_ := am (blk_same Vb9.out hb)
  have mb12_ := am (blk_same Vb12.out hb)
  have c0_ := am (Kd.C_below C0.out hb); have d0_ := am (Kd.C_below D0.out hb)
  have c1_ := am (Kd.C_below C1.out hb); have d1_ := am (Kd.C_below D1.out hb)
  have c2_ := am (Kd.C_below C2.out hb); have d2_ := am (Kd.C_below D2.out hb)
  have c3_ := am (Kd.C_below C3.out hb); have d3_ := am (Kd.C_below D3.out hb)
  have c4_ := am (Kd.C_below C4.out hb); have d4_ := am (Kd.C_below D4.out hb)
  have c5_ := am (Kd.C_below C5.out hb); have d5_ := am (Kd.C_below D5.out hb)
  have c6_ := am (Kd.C_below C6.out hb); have d6_ := am (Kd.C_below D6.out hb)
  have c8_ := am (Kd.C_below C8.out hb); have d8_ := am (Kd.C_below D8.out hb)
  have w_ := am (below_step WB.out hb)
  clear Vb3 Vb9 Vb12 C0 D0 C1 D1 C2 D2 C3 D3 C4 D4 C5 D5 C6 D6 C8 D8 WB
  have Vb3 := mb3_
  have Vb9 := mb9_
  have Vb12 := mb12_
  have C0 := c0_; have D0 := d0_
  have C1 := c1_; have D1 := d1_
  have C2 := c2_; have D2 := d2_
  have C3 := c3_; have D3 := d3_
  have C4 := c4_; have D4 := d4_
  have C5 := c5_; have D5 := d5_
  have C6 := c6_; have D6 := d6_
  have C8 := c8_; have D8 := d8_
  have WB := w_
  clear mb3_ mb9_ mb12_ c0_ d0_ c1_ d1_ c2_ d2_ c3_ d3_ c4_ d4_ c5_ d5_ c6_ d6_ c8_ d8_ w_
  clear hb
  have kb3_0 := (blk_cell Vb3.out 0).trans rfl
  have kb3_1 := (blk_cell Vb3.out 1).trans rfl
  have kb3_2 := (blk_cell Vb3.out 2).trans rfl
  have kb3_3 := (blk_cell Vb3.out 3).trans rfl
  have kb3_4 := (blk_cell Vb3.out 4).trans rfl
  have kb9_0 := (blk_cell Vb9.out 0).trans rfl
  have kb9_1 := (blk_cell Vb9.out 1).trans rfl
  have kb9_2 := (blk_cell Vb9.out 2).trans rfl
  have kb9_3 := (blk_cell Vb9.out 3).trans rfl
  have kb9_4 := (blk_cell Vb9.out 4).trans rfl
  have kb12_0 := (blk_cell Vb12.out 0).trans rfl
  have kb12_1 := (blk_cell Vb12.out 1).trans rfl
  have kb12_2 := (blk_cell Vb12.out 2).trans rfl
  have kb12_3 := (blk_cell Vb12.out 3).trans rfl
  have kb12_4 := (blk_cell Vb12.out 4).trans rfl
  go_wp2_with fail
  refine (vault_Right.calls _ _ a5 _ _ [] 3 1 5 true _ C5.out L5 D5.out (Nat.zero_le _) e11).mono ?_
  rintro e W12 ⟨rfl, hb⟩
  have w_ := below_step WB.out hb
  go_wp2
  go_ret
  exact ⟨rfl, w_⟩
def aw0 : List ByteArray := [blank, blank, blank, blank]
def aw1 : List ByteArray := [headP 0 0 0, blank, blank, blank]
def awkA : ByteArray := ⟨#[115, 111, 109, 101]⟩ ++ blank.extract 4 64
def awkB : ByteArray := ⟨#[115, 111, 109, 101, 32, 116, 101, 120, 116]⟩ ++ blank.extract 9 64
def awkC : ByteArray := ⟨#[111, 116, 104, 101, 114]⟩ ++ blank.extract 5 64
def aw2 : List ByteArray := [headP 0 0 0, headP 1 0 4, awkA, blank]
def aw3 : List ByteArray := [headP 2 0 9, headP 1 0 4, awkB, blank]
def aw5 : List ByteArray := [headP 2 0 9, headP 3 1 5, awkB, awkC]
theorem awe0 : columbariumref14_New.f 600 4 = some (aw0, [], 0) := by kernel_rfl
theorem awe1 : vault_Format.f 100 aw0 [] = some (aw1, [], 0, 0, 0, 0) := by kernel_rfl
theorem awe2 : vault_Keep.f aw1 [] 0 0 0 ⟨#[115, 111, 109, 101]⟩ false = some (aw2, [], 1, 0, 4, 0) := by kernel_rfl
theorem awe3 : vault_Keep.f aw2 [] 1 0 4 ⟨#[32, 116, 101, 120, 116]⟩ false = some (aw3, [], 2, 0, 9, 0) := by kernel_rfl
theorem awe4 : vault_Open.f aw3 [] = some (aw3, [], 2, 0, 9, ⟨#[115, 111, 109, 101, 32, 116, 101, 120, 116]⟩, 0) := by kernel_rfl
theorem awe5 : vault_Keep.f aw3 [] 2 0 9 ⟨#[111, 116, 104, 101, 114]⟩ true = some (aw5, [], 3, 1, 5, 0) := by kernel_rfl
theorem awe6 : vault_Open.f aw5 [] = some (aw5, [], 3, 1, 5, ⟨#[111, 116, 104, 101, 114]⟩, 0) := by kernel_rfl
def awl : List S24 := movesN aw1 0 0 0 ⟨#[97]⟩ false
theorem awe7 : vault_Moves.f aw1 [] 0 0 0 ⟨#[97]⟩ false = some (awl, 0) := by kernel_rfl
theorem awe7l : awl.length = 5 := by kernel_rfl
theorem awe8 : vault_Open.f aw0 [] = some (aw0, [], 0, 0, 0, ⟨#[]⟩, 25) := by kernel_rfl
theorem awe9 : vault_Keep.f aw5 [] 3 1 5 (strOfNums (List.replicate 65 0)) true = some (aw5, [], 3, 1, 5, 2) := by kernel_rfl
theorem awe10 : vault_Room.f aw1 [] 0 0 0 = some 64 := by kernel_rfl
theorem awe11 : vault_Right.f aw5 [] 3 1 5 = some true := by kernel_rfl
def columbariumlaw15_awake.f : Option Bool := some true
theorem columbariumlaw15_awake.calls (r : Bool) (w : World) (h : columbariumlaw15_awake.f = some r) : Calls Try.prog 28 #[] w fun e w' => e = .returned (.bool r) ∧ Below w.heap.size w w' := by
  obtain rfl := Option.some.inj h
  exact awake_walk awe0 awe1 awe2 awe3 awe4 awe5 awe6 awe7 awe7l awe8 awe9 awe10 awe11 w
end Go.Proofs.Ytcfinlmocgbnbaa.Pr
end
