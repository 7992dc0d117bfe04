/-
  A part of what the row VaultCrashes reaches, laid together by a program of this session (wip/tools/shake.py) out of this seat's texts. No condition but the ones that each lemma names.
-/
import Derived.Test.YtcfinlmocgbnbaaZVaultCrashes1
import Derived.Test.YtcfinlmocgbnbaaZVaultCrashes2
set_option linter.unusedVariables false
set_option linter.unusedSimpArgs false
section
namespace Go.Proofs.Ytcfinlmocgbnbaa.Pr
open Go.Proofs.Ytcfinlmocgbnbaa.Sq Go.RowKit Go.Shelf Go.Proofs.Ytcfinlmocgbnbaa.XB Go.Proofs.YtcfinlmocgbnbaaW.PrintWords Go.Proofs.YtcfinlmocgbnbaaW.PrintLast Go.Proofs.YtcfinlmocgbnbaaW.PrintMore
attribute [local go_sem] Oper.semAt_some
set_option linter.unusedVariables false
set_option linter.unusedSimpArgs false
set_option maxRecDepth 100000
def vread.T1 : Bool × List (List Nat × List Nat) := (true, [([], []), ([], []), ([], []), ([], []), ([3], [3]), ([4], [4]), ([], []), ([6], [6]), ([7, 5], [7]), ([], []), ([9], [9]), ([10, 8], [10]), ([0, 0, 3, 4, 5, 8, 11], [0]), ([12, 0, 3, 4, 5, 8, 11], [12]), ([13, 0, 3, 4, 5, 8, 11], [13]), ([14, 5, 11, 0, 3, 4, 5, 8, 11], [5, 14]), ([1, 0, 1, 3, 4, 5, 6, 7, 8, 11, 12, 13, 14, 15], [1]), ([16, 0, 1, 3, 4, 5, 6, 7, 8, 11, 12, 13, 14, 15], [16]), ([17, 0, 1, 3, 4, 5, 6, 7, 8, 11, 12, 13, 14, 15], [17]), ([18, 8, 15, 0, 1, 3, 4, 5, 6, 7, 8, 11, 12, 13, 14, 15], [8, 18]), ([2, 0, 1, 2, 3, 4, 5, 6, 7, 8, 9, 10, 11, 12, 13, 14, 15, 16, 17, 18, 19], [2]), ([20, 0, 1, 2, 3, 4, 5, 6, 7, 8, 9, 10, 11, 12, 13, 14, 15, 16, 17, 18, 19], [20]), ([21, 0, 1, 2, 3, 4, 5, 6, 7, 8, 9, 10, 11, 12, 13, 14, 15, 16, 17, 18, 19], [21]), ([22, 11, 19, 0, 1, 2, 3, 4, 5, 6, 7, 8, 9, 10, 11, 12, 13, 14, 15, 16, 17, 18, 19], [11, 22])])
def vread.B1 : List Nat := [0, 0, 0, 0, 8, 24, 0, 64, 248, 0, 512, 2040, 4089, 8185, 16377, 32761, 65531, 131067, 262139, 524283, 1048575, 2097151, 4194303, 8388607]
theorem vread.tab1 : rtab .any (opsOf Try.f60 1) = vread.T1 := by kernel_rfl
theorem vread.bits1 : waitsOk vread.T1.2 vread.B1 = true := by kernel_rfl
def vread.T2 : Bool × List (List Nat × List Nat) := (true, [([], []), ([0], [0]), ([1], [1]), ([2], [2]), ([3], [3]), ([4], [4]), ([5], [5]), ([6], [6]), ([7, 6], [6, 7]), ([8, 6], [6, 8]), ([9, 6], [6, 9]), ([10, 6], [6, 10]), ([11, 6], [6, 11]), ([6, 12], [6, 12]), ([13, 6], [13]), ([14], [14]), ([15, 14], [14, 15]), ([16, 14], [14, 16]), ([17, 14], [14, 17]), ([18, 14], [14, 18]), ([19, 14], [14, 19]), ([14, 20], [14, 20]), ([21, 14], [21]), ([22], [22]), ([23, 22], [22, 23]), ([24, 22], [22, 24]), ([25, 22], [22, 25]), ([26, 22], [22, 26]), ([22], [22]), ([28, 22], [22, 28]), ([29, 22], [22, 29]), ([30, 22, 22], [22, 30]), ([27, 31, 22], [22, 27, 31]), ([22, 32], [22, 32]), ([33, 31], [33]), ([34], [34]), ([35, 34], [34, 35]), ([36, 34], [34, 36]), ([37, 34, 34], [34, 37]), ([34], [34]), ([38, 39, 34], [34, 38, 39]), ([34, 40], [34, 40]), ([41, 38, 0, 1, 2, 3, 4, 5, 6, 7, 8, 9, 10, 11, 12, 13, 14, 15, 16, 17, 18, 19, 20, 21, 22, 23, 24, 25, 26, 27, 28, 29, 30, 31, 32, 33, 34, 35, 36, 37, 38, 39, 40, 41], [41])])
def vread.B2 : List Nat := [0, 1, 3, 7, 15, 31, 63, 127, 255, 511, 1023, 2047, 4095, 8191, 16383, 32767, 65535, 131071, 262143, 524287, 1048575, 2097151, 4194303, 8388607, 16777215, 33554431, 67108863, 134217727, 8388607, 276824063, 813694975, 1887436799, 4294967295, 8589934591, 17179869183, 34359738367, 68719476735, 137438953471, 274877906943, 34359738367, 1099511627775, 2199023255551, 4398046511103]
theorem vread.tab2 : rtab .any (opsOf Try.f60 2) = vread.T2 := by kernel_rfl
theorem vread.bits2 : waitsOk vread.T2.2 vread.B2 = true := by kernel_rfl
set_option maxHeartbeats 8000000 in
theorem vault_read_calls (k : Nat) (g : Nat) {su : List ByteArray} {so : List S24} {A0 A1 : Option Addr} {c0 c1 : Nat} {sq hf ln n1 n2 n3 rm : Int} {s hd : ByteArray} (W0 w : World) (hb0 : Below W0.heap.size W0 w) (hg0 : W0.heap.size ≤ g)
    (hbb : w.heap[g]? = some (.cells #[.slice A0 su.length c0, .slice A1 so.length c1, .int .i64 sq, .int .i64 hf, .int .i64 ln] 89 (0, 0))) (hsu : Kd.C Kd.string W0 A0 su.length su) (hc0 : su.length ≤ c0) (hso : Kd.C k24 W0 A1 so.length so) (hc1 : so.length ≤ c1)
    (hs : 16 ≤ s.size) (h1 : vault_take_int.f (s.extract 0 8) = some n1) (h2 : vault_take_int.f (s.extract 8 12) = some n2) (h3 : vault_take_int.f (s.extract 12 16) = some n3) (hrm : vault_book_room.f su so n1 n2 n3 = some rm) (hhd : vault_book_head.f k su so n1 n2 n3 = some hd) (hn1 : 0 ≤ n1) :
    Calls Try.prog 60 #[.pointer (some ⟨g, 0, none⟩), .string s] w fun e w' => e = .returned (.bool (decide (n1 ≤ 1099511627776) && decide (n2 < 2) && decide (n3 ≤ rm) && decide (hd.toList = s.toList))) ∧ w'.heap[g]? = some (.cells #[.slice A0 su.length c0, .slice A1 so.length c1, .int .i64 n1, .int .i64 n2, .int .i64 n3] 89 (0, 0)) ∧ Below W0.heap.size W0 w' ∧ (∀ g' o, g' ≠ g → w.heap[g']? = some o → w'.heap[g']? = some o) := by
 have H1 := am h1
 have H2 := am h2
 have H3 := am h3
 have HB0 := am hb0
 have HC := Lib.hid (And.intro hsu (And.intro hc0 (And.intro hso (And.intro hc1 (And.intro hrm hhd)))))
 have hn1' := hn1
 have hs8 : (8 : Int) ≤ (s.size : Int) := by omega
 have hs12 : (12 : Int) ≤ (s.size : Int) := by omega
 have hs16 : (16 : Int) ≤ (s.size : Int) := by omega
 clear h1 h2 h3 hb0 hsu hc0 hso hc1 hrm hhd
 go_enter Try.func60, Try.ntmps60
 go_wp2
 have HO := am (below_drew1 (Below.refl w.heap.size w))
 have BB := am (Go.Proofs.YtcfinlmocgbnbaaW.PrintWords.bkD hbb)
 clear hbb
 refine start_ (n := 24) (S := fun w' => True) (ds := [15, 19, 23]) #[false, false, false, false, false, false, false, false, false, false, false, false, false, false, false, false, false, false, false, false, false, false, false, false] (by kernel_rfl) rfl rfl trivial (fun hHeld => ?_); refine with_tabW vread.tab1 vread.bits1 (fun HT_ HW_ => ?_)
 generalize w.drew = w0 at HO BB hHeld ⊢
 refine pu_ 0 (some 5) HT_ rfl rfl (.inl ⟨by rfl, by intro w'; go_simp; with_reducible rfl⟩) (by simp only [Act.put, sa_, s0_, s1_, i64_w, i32_w]; rfl) ?_
 refine pu_ 1 (some 6) HT_ rfl rfl (.inl ⟨by rfl, by intro w'; go_simp; with_reducible rfl⟩) (by simp only [Act.put, sa_, s0_, s1_, i64_w, i32_w]; rfl) ?_
 refine pu_ 2 (some 7) HT_ rfl rfl (.inl ⟨by rfl, by intro w'; go_simp; with_reducible rfl⟩) (by simp only [Act.put, sa_, s0_, s1_, i64_w, i32_w]; rfl) ?_
 refine pu_ 3 (some 8) HT_ rfl rfl (.inl ⟨by rfl, by intro w'; go_simp; with_reducible rfl⟩) (by simp only [Act.put, sa_, s0_, s1_, i64_w, i32_w]; rfl) ?_
 refine pu_ 4 (some 9) HT_ rfl rfl (.inl ⟨by rfl, by intro w'; go_simp; with_reducible rfl⟩) (by simp only [Act.put, sa_, s0_, s1_, i64_w, i32_w]; rfl) ?_
 refine pu_ 6 (some 11) HT_ rfl rfl (.inl ⟨by rfl, by intro w'; go_simp; with_reducible rfl⟩) (by simp only [Act.put, sa_, s0_, s1_, i64_w, i32_w]; rfl) ?_
 refine pu_ 7 (some 12) HT_ rfl rfl (.inl ⟨by rfl, by intro w'; go_simp; with_reducible rfl⟩) (by simp only [Act.put, sa_, s0_, s1_, i64_w, i32_w]; rfl) ?_
 refine pu_ 9 (some 14) HT_ rfl rfl (.inl ⟨by rfl, by intro w'; go_simp; with_reducible rfl⟩) (by simp only [Act.put, sa_, s0_, s1_, i64_w, i32_w]; rfl) ?_
 refine pu_ 10 (some 15) HT_ rfl rfl (.inl ⟨by rfl, by intro w'; go_simp; with_reducible rfl⟩) (by simp only [Act.put, sa_, s0_, s1_, i64_w, i32_w]; rfl) ?_
 refine on_ 5 (some 10) HT_ rfl rfl (fun K hK => ?_)
 refine goes_ Try.func80 (by kernel_rfl) rfl #[.string (s.extract 0 8)] (by rfl) rfl rfl (by (try simp only [List.map_toArray, List.map_cons, List.map_nil]) <;> rfl) ?_
 refine (vault_take_int.calls (s.extract 0 8) n1 _ H1.out).mono ?_
 rintro e W2 ⟨rfl, hb⟩
 refine ⟨_, rfl, ?_⟩
 have m0_ := am (below_step HO.out hb); have m1_ := am (blk_same BB.out hb); clear HO BB; have HO := m0_; have BB := m1_; clear m0_ m1_ hb
 refine hK.out _ _ trivial (fun hHeld => ?_)
 clear hK K
 refine norm_ (by show Act.put _ (some 10) _ = _; simp only [Act.put, sa_, s0_, s1_, i64_w, i32_w]; rfl) ?_
 refine on_ 8 (some 13) HT_ rfl rfl (fun K hK => ?_)
 refine goes_ Try.func80 (by kernel_rfl) rfl #[.string (s.extract 8 12)] (by rfl) rfl rfl (by (try simp only [List.map_toArray, List.map_cons, List.map_nil]) <;> rfl) ?_
 refine (vault_take_int.calls (s.extract 8 12) n2 _ H2.out).mono ?_
 rintro e W2 ⟨rfl, hb⟩
 refine ⟨_, rfl, ?_⟩
 have m0_ := am (below_step HO.out hb); have m1_ := am (blk_same BB.out hb); clear HO BB; have HO := m0_; have BB := m1_; clear m0_ m1_ hb
 refine hK.out _ _ trivial (fun hHeld => ?_)
 clear hK K
 refine norm_ (by show Act.put _ (some 13) _ = _; simp only [Act.put, sa_, s0_, s1_, i64_w, i32_w]; rfl) ?_
 refine on_ 11 (some 16) HT_ rfl rfl (fun K hK => ?_)
 refine goes_ Try.func80 (by kernel_rfl) rfl #[.string (s.extract 12 16)] (by rfl) rfl rfl (by (try simp only [List.map_toArray, List.map_cons, List.map_nil]) <;> rfl) ?_
 refine (vault_take_int.calls (s.extract 12 16) n3 _ H3.out).mono ?_
 rintro e W2 ⟨rfl, hb⟩
 refine ⟨_, rfl, ?_⟩
 have m0_ := am (below_step HO.out hb); have m1_ := am (blk_same BB.out hb); clear HO BB; have HO := m0_; have BB := m1_; clear m0_ m1_ hb
 refine hK.out _ _ trivial (fun hHeld => ?_)
 clear hK K
 refine norm_ (by show Act.put _ (some 16) _ = _; simp only [Act.put, sa_, s0_, s1_, i64_w, i32_w]; rfl) ?_
 refine pu_ 12 (some 17) HT_ rfl rfl (.inl ⟨by rfl, by intro w'; go_simp; with_reducible rfl⟩) (by simp only [Act.put, sa_, s0_, s1_, i64_w, i32_w]; rfl) ?_
 refine pu_ 13 (some 18) HT_ rfl rfl (.inl ⟨by rfl, by intro w'; go_simp; with_reducible rfl⟩) (by simp only [Act.put, sa_, s0_, s1_, i64_w, i32_w]; rfl) ?_
 refine pu_ 14 (some 19) HT_ rfl rfl (.inl ⟨by rfl, by intro w'; go_simp; with_reducible rfl⟩) (by simp only [Act.put, sa_, s0_, s1_, i64_w, i32_w]; rfl) ?_
 refine la_ 15 none HT_ rfl rfl (fun K hK => ?_)
 have hs1 := (blk_cell BB.out 2).trans rfl; have hf1 := blk_frozen BB.out 2
 refine skip_ (by rfl) rfl (by go_simp; rfl) ?_
 refine hK.out _ _ ?_
 clear hK K hs1 hf1
 have m1_ := am (show (W2.setCell ⟨g, 2, none⟩ (.int .i64 n1)).heap[g]? = some (.cells #[.slice A0 su.length c0, .slice A1 so.length c1, .int .i64 n1, .int .i64 hf, .int .i64 ln] 89 (0, 0)) from Go.Proofs.YtcfinlmocgbnbaaW.PrintWords.blk_set BB.out 2 _); clear BB; have BB := m1_; clear m1_
 refine pu_ 16 (some 20) HT_ rfl rfl (.inl ⟨by rfl, by intro w'; go_simp; with_reducible rfl⟩) (by simp only [Act.put, sa_, s0_, s1_, i64_w, i32_w]; rfl) ?_
 refine pu_ 17 (some 21) HT_ rfl rfl (.inl ⟨by rfl, by intro w'; go_simp; with_reducible rfl⟩) (by simp only [Act.put, sa_, s0_, s1_, i64_w, i32_w]; rfl) ?_
 refine pu_ 18 (some 22) HT_ rfl rfl (.inl ⟨by rfl, by intro w'; go_simp; with_reducible rfl⟩) (by simp only [Act.put, sa_, s0_, s1_, i64_w, i32_w]; rfl) ?_
 refine la_ 19 none HT_ rfl rfl (fun K hK => ?_)
 have hs1 := (blk_cell BB.out 3).trans rfl; have hf1 := blk_frozen BB.out 3
 refine skip_ (by rfl) rfl (by go_simp; rfl) ?_
 refine hK.out _ _ ?_
 clear hK K hs1 hf1
 have m1_ := am (show ((W2.setCell ⟨g, 2, none⟩ (.int .i64 n1)).setCell ⟨g, 3, none⟩ (.int .i64 n2)).heap[g]? = some (.cells #[.slice A0 su.length c0, .slice A1 so.length c1, .int .i64 n1, .int .i64 n2, .int .i64 ln] 89 (0, 0)) from Go.Proofs.YtcfinlmocgbnbaaW.PrintWords.blk_set BB.out 3 _); clear BB; have BB := m1_; clear m1_
 refine pu_ 20 (some 23) HT_ rfl rfl (.inl ⟨by rfl, by intro w'; go_simp; with_reducible rfl⟩) (by simp only [Act.put, sa_, s0_, s1_, i64_w, i32_w]; rfl) ?_
 refine pu_ 21 (some 24) HT_ rfl rfl (.inl ⟨by rfl, by intro w'; go_simp; with_reducible rfl⟩) (by simp only [Act.put, sa_, s0_, s1_, i64_w, i32_w]; rfl) ?_
 refine pu_ 22 (some 25) HT_ rfl rfl (.inl ⟨by rfl, by intro w'; go_simp; with_reducible rfl⟩) (by simp only [Act.put, sa_, s0_, s1_, i64_w, i32_w]; rfl) ?_
 refine la_ 23 none HT_ rfl rfl (fun K hK => ?_)
 have hs1 := (blk_cell BB.out 4).trans rfl; have hf1 := blk_frozen BB.out 4
 refine skip_ (by rfl) rfl (by go_simp; rfl) ?_
 refine hK.out _ _ ?_
 clear hK K hs1 hf1
 have m1_ := am (show (((W2.setCell ⟨g, 2, none⟩ (.int .i64 n1)).setCell ⟨g, 3, none⟩ (.int .i64 n2)).setCell ⟨g, 4, none⟩ (.int .i64 n3)).heap[g]? = some (.cells #[.slice A0 su.length c0, .slice A1 so.length c1, .int .i64 n1, .int .i64 n2, .int .i64 n3] 89 (0, 0)) from Go.Proofs.YtcfinlmocgbnbaaW.PrintWords.blk_set BB.out 4 _); clear BB; have BB := m1_; clear m1_
 refine done_ (done_of HT_.out (by kernel_rfl)) ?_
 have XB0 : Aside0 (Below W0.heap.size W0 (((W2.setCell ⟨g, 2, none⟩ (.int .i64 n1)).setCell ⟨g, 3, none⟩ (.int .i64 n2)).setCell ⟨g, 4, none⟩ (.int .i64 n3))) := am (below_set (below_set (below_set (HB0.out.trans (HO.out.mono HB0.out.size)) hg0) hg0) hg0)
 have XK : Aside0 (∀ g' o, g' ≠ g → w.heap[g']? = some o → (((W2.setCell ⟨g, 2, none⟩ (.int .i64 n1)).setCell ⟨g, 3, none⟩ (.int .i64 n2)).setCell ⟨g, 4, none⟩ (.int .i64 n3)).heap[g']? = some o) := am (fun g' o hne hg => (Below.heap_setCell _ _ _ _ (fun e => hne (by rw [e]))).trans ((Below.heap_setCell _ _ _ _ (fun e => hne (by rw [e]))).trans ((Below.heap_setCell _ _ _ _ (fun e => hne (by rw [e]))).trans (blk_same hg HO.out))))
 have BX := BB
 clear BB
 generalize (((W2.setCell ⟨g, 2, none⟩ (.int .i64 n1)).setCell ⟨g, 3, none⟩ (.int .i64 n2)).setCell ⟨g, 4, none⟩ (.int .i64 n3)) = X at XB0 XK BX ⊢
 clear HO HB0 H1 H2 H3 HT_ HW_ hHeld hs8 hs12 hs16 hs
 have r58 : ∀ W, Below X.heap.size X W → Calls Try.prog 58 #[.agg #[.slice A0 su.length c0, .slice A1 so.length c1, .int .i64 n1, .int .i64 n2, .int .i64 n3]] W fun e w' => e = .returned (.int .i64 rm) ∧ Below W.heap.size W w' := fun W h => vault_book_room.calls _ _ su _ _ so n1 n2 n3 rm W (Kd.C_below HC.out.1 (XB0.out.trans (h.mono XB0.out.size))) HC.out.2.1 (Kd.C_below HC.out.2.2.1 (XB0.out.trans (h.mono XB0.out.size))) HC.out.2.2.2.1 HC.out.2.2.2.2.1
 have r56 : ∀ W, Below X.heap.size X W → Calls Try.prog 56 #[.agg #[.slice A0 su.length c0, .slice A1 so.length c1, .int .i64 n1, .int .i64 n2, .int .i64 n3]] W fun e w' => e = .returned (.string hd) ∧ Below W.heap.size W w' := fun W h => vault_book_head.calls k _ _ su _ _ so n1 n2 n3 hd W (Kd.C_below HC.out.1 (XB0.out.trans (h.mono XB0.out.size))) HC.out.2.1 (Kd.C_below HC.out.2.2.1 (XB0.out.trans (h.mono XB0.out.size))) HC.out.2.2.2.1 HC.out.2.2.2.2.2
 clear HC
 go_wp2
 by_cases q1 : n1 ≤ 1099511627776
 rotate_left
 · have q1b := decide_eq_false q1
   have XO := am (below_drew1 (Below.refl X.heap.size X))
   have XX := am (Go.Proofs.YtcfinlmocgbnbaaW.PrintWords.bkD BX.out)
   refine start_ (n := 43) (S := fun w' => w'.cell? ⟨g, 0, none⟩ = some (.slice A0 su.length c0) ∧ w'.cell? ⟨g, 1, none⟩ = some (.slice A1 so.length c1) ∧ w'.cell? ⟨g, 2, none⟩ = some (.int .i64 n1) ∧ w'.cell? ⟨g, 3, none⟩ = some (.int .i64 n2) ∧ w'.cell? ⟨g, 4, none⟩ = some (.int .i64 n3)) (ds := []) #[false, false, false, false, false, false, false, false, false, false, false, false, false, false, false, false, false, false, false, false, false, false, false, false, false, false, false, false, false, false, false, false, false, false, false, false, false, false, false, false, false, false, false] (by kernel_rfl) rfl rfl (bc5 XX) (fun hHeld => ?_); refine with_tabW vread.tab2 vread.bits2 (fun HT_ HW_ => ?_)
   generalize X.drew = Y at XO XX hHeld ⊢
   refine pu_ 0 (some 26) HT_ rfl rfl (.inl ⟨by rfl, by intro w'; go_simp; with_reducible rfl⟩) (by simp only [Act.put, sa_, s0_, s1_, i64_w, i32_w]; rfl) ?_
   refine pu_ 1 (some 27) HT_ rfl rfl (.inl ⟨by rfl, by intro w'; go_simp; with_reducible rfl⟩) (by simp only [Act.put, sa_, s0_, s1_, i64_w, i32_w]; rfl) ?_
   refine pu_ 2 (some 28) HT_ rfl rfl (.inl ⟨by rfl, by intro w'; go_simp; with_reducible rfl⟩) (by simp only [Act.put, sa_, s0_, s1_, i64_w, i32_w]; rfl) ?_
   refine pu_ 3 (some 29) HT_ rfl rfl (.inl ⟨by rfl, by intro w'; go_simp; with_reducible rfl⟩) (by simp only [Act.put, sa_, s0_, s1_, i64_w, i32_w]; rfl) ?_
   refine tk_ 4 (some 30) HT_ HW_ rfl rfl (.inl ⟨by rfl, by rintro w' ⟨s0, s1, s2, s3, s4⟩; go_simp; with_reducible rfl⟩) hHeld (by simp only [Act.put, sa_, s0_, s1_, i64_w, i32_w]; rfl) ?_
   refine pu_ 5 (some 31) HT_ rfl rfl (.inl ⟨by rfl, by intro w'; go_simp; with_reducible rfl⟩) (by simp only [Act.put, sa_, s0_, s1_, i64_w, i32_w]; rfl) ?_
   refine pu_ 6 (some 32) HT_ rfl rfl (.inl ⟨by rfl, by intro w'; go_simp; with_reducible rfl⟩) (by simp only [Act.put, sa_, s0_, s1_, i64_w, i32_w]; rfl) ?_
   refine pu_ 7 (some 33) HT_ rfl rfl (.inl ⟨by rfl, by intro w'; go_simp; with_reducible rfl⟩) (by simp only [Act.put, sa_, s0_, s1_, i64_w, i32_w]; rfl) ?_
   refine pu_ 8 (some 34) HT_ rfl rfl (.inl ⟨by rfl, by intro w'; go_simp; with_reducible rfl⟩) (by simp only [Act.put, sa_, s0_, s1_, i64_w, i32_w]; rfl) ?_
   refine pu_ 9 (some 35) HT_ rfl rfl (.inl ⟨by rfl, by intro w'; go_simp; with_reducible rfl⟩) (by simp only [Act.put, sa_, s0_, s1_, i64_w, i32_w]; rfl) ?_
   refine pu_ 10 (some 36) HT_ rfl rfl (.inl ⟨by rfl, by intro w'; go_simp; with_reducible rfl⟩) (by simp only [Act.put, sa_, s0_, s1_, i64_w, i32_w]; rfl) ?_
   refine tk_ 11 (some 37) HT_ HW_ rfl rfl (.inl ⟨by rfl, by rintro w' ⟨s0, s1, s2, s3, s4⟩; go_simp; with_reducible rfl⟩) hHeld (by simp only [Act.put, sa_, s0_, s1_, i64_w, i32_w]; rfl) ?_
   refine pu_ 12 (some 38) HT_ rfl rfl (.inl ⟨by rfl, by intro w'; go_simp; with_reducible rfl⟩) (by simp only [Act.put, sa_, s0_, s1_, i64_w, i32_w]; rfl) ?_
   refine pu_ 13 (some 39) HT_ rfl rfl (.inl ⟨by rfl, by intro w'; go_simp; with_reducible rfl⟩) (by simp only [Act.put, sa_, s0_, s1_, i64_w, i32_w]; rfl) ?_
   refine pu_ 14 (some 40) HT_ rfl rfl (.inl ⟨by rfl, by intro w'; go_simp; with_reducible rfl⟩) (by simp only [Act.put, sa_, s0_, s1_, i64_w, i32_w]; rfl) ?_
   refine pu_ 15 (some 41) HT_ rfl rfl (.inr ⟨by rfl, rfl⟩) (by simp only [Act.put, sa_, s0_, s1_, i64_w, i32_w]; rfl) ?_
   refine pu_ 16 (some 42) HT_ rfl rfl (.inr ⟨by rfl, rfl⟩) (by simp only [Act.put, sa_, s0_, s1_, i64_w, i32_w]; rfl) ?_
   refine pu_ 17 (some 43) HT_ rfl rfl (.inr ⟨by rfl, rfl⟩) (by simp only [Act.put, sa_, s0_, s1_, i64_w, i32_w]; rfl) ?_
   refine pu_ 18 (some 44) HT_ rfl rfl (.inr ⟨by rfl, rfl⟩) (by simp only [Act.put, sa_, s0_, s1_, i64_w, i32_w]; rfl) ?_
   refine pu_ 19 (some 45) HT_ rfl rfl (.inr ⟨by rfl, rfl⟩) (by simp only [Act.put, sa_, s0_, s1_, i64_w, i32_w]; rfl) ?_
   refine pu_ 20 (some 46) HT_ rfl rfl (.inr ⟨by rfl, rfl⟩) (by simp only [Act.put, sa_, s0_, s1_, i64_w, i32_w]; rfl) ?_
   refine pu_ 21 (some 47) HT_ rfl rfl (.inl ⟨by rfl, by intro w'; go_simp; with_reducible rfl⟩) (by simp only [Act.put, sa_, s0_, s1_, i64_w, i32_w]; rfl) ?_
   refine pu_ 22 (some 48) HT_ rfl rfl (.inl ⟨by rfl, by intro w'; go_simp; with_reducible rfl⟩) (by simp only [Act.put, sa_, s0_, s1_, i64_w, i32_w]; rfl) ?_
   refine pu_ 23 (some 49) HT_ rfl rfl (.inr ⟨by rfl, rfl⟩) (by simp only [Act.put, sa_, s0_, s1_, i64_w, i32_w]; rfl) ?_
   refine pu_ 24 (some 50) HT_ rfl rfl (.inr ⟨by rfl, rfl⟩) (by simp only [Act.put, sa_, s0_, s1_, i64_w, i32_w]; rfl) ?_
   refine pu_ 25 (some 51) HT_ rfl rfl (.inr ⟨by rfl, rfl⟩) (by simp only [Act.put, sa_, s0_, s1_, i64_w, i32_w]; rfl) ?_
   refine pu_ 26 (some 52) HT_ rfl rfl (.inr ⟨by rfl, rfl⟩) (by simp only [Act.put, sa_, s0_, s1_, i64_w, i32_w]; rfl) ?_
   refine pu_ 27 (some 53) HT_ rfl rfl (.inr ⟨by rfl, rfl⟩) (by simp only [Act.put, sa_, s0_, s1_, i64_w, i32_w]; rfl) ?_
   refine pu_ 28 (some 54) HT_ rfl rfl (.inr ⟨by rfl, rfl⟩) (by simp only [Act.put, sa_, s0_, s1_, i64_w, i32_w]; rfl) ?_
   refine pu_ 29 (some 55) HT_ rfl rfl (.inr ⟨by rfl, rfl⟩) (by simp only [Act.put, sa_, s0_, s1_, i64_w, i32_w]; rfl) ?_
   refine pu_ 30 (some 56) HT_ rfl rfl (.inr ⟨by rfl, rfl⟩) (by simp only [Act.put, sa_, s0_, s1_, i64_w, i32_w]; rfl) ?_
   refine pu_ 31 (some 57) HT_ rfl rfl (.inr ⟨by rfl, rfl⟩) (by simp only [Act.put, sa_, s0_, s1_, i64_w, i32_w]; rfl) ?_
   refine pu_ 32 (some 58) HT_ rfl rfl (.inr ⟨by rfl, rfl⟩) (by simp only [Act.put, sa_, s0_, s1_, i64_w, i32_w]; rfl) ?_
   refine pu_ 33 (some 59) HT_ rfl rfl (.inl ⟨by rfl, by intro w'; go_simp; with_reducible rfl⟩) (by simp only [Act.put, sa_, s0_, s1_, i64_w, i32_w]; rfl) ?_
   refine pu_ 34 (some 60) HT_ rfl rfl (.inl ⟨by rfl, by intro w'; go_simp; with_reducible rfl⟩) (by simp only [Act.put, sa_, s0_, s1_, i64_w, i32_w]; rfl) ?_
   refine pu_ 35 (some 61) HT_ rfl rfl (.inr ⟨by rfl, rfl⟩) (by simp only [Act.put, sa_, s0_, s1_, i64_w, i32_w]; rfl) ?_
   refine pu_ 36 (some 62) HT_ rfl rfl (.inr ⟨by rfl, rfl⟩) (by simp only [Act.put, sa_, s0_, s1_, i64_w, i32_w]; rfl) ?_
   refine pu_ 37 (some 63) HT_ rfl rfl (.inr ⟨by rfl, rfl⟩) (by simp only [Act.put, sa_, s0_, s1_, i64_w, i32_w]; rfl) ?_
   refine pu_ 38 (some 64) HT_ rfl rfl (.inr ⟨by rfl, rfl⟩) (by simp only [Act.put, sa_, s0_, s1_, i64_w, i32_w]; rfl) ?_
   refine pu_ 39 (some 65) HT_ rfl rfl (.inr ⟨by rfl, rfl⟩) (by simp only [Act.put, sa_, s0_, s1_, i64_w, i32_w]; rfl) ?_
   refine pu_ 40 (some 66) HT_ rfl rfl (.inr ⟨by rfl, rfl⟩) (by simp only [Act.put, sa_, s0_, s1_, i64_w, i32_w]; rfl) ?_
   refine pu_ 41 (some 67) HT_ rfl rfl (.inl ⟨by rfl, by intro w'; go_simp; with_reducible rfl⟩) (by simp only [Act.put, sa_, s0_, s1_, i64_w, i32_w]; rfl) ?_
   refine pu_ 42 (some 4) HT_ rfl rfl (.inl ⟨by rfl, by intro w'; go_simp; with_reducible rfl⟩) (by simp only [Act.put, sa_, s0_, s1_, i64_w, i32_w]; rfl) ?_
   refine done_ (done_of HT_.out (by kernel_rfl)) ?_
   go_wp2
   go_ret
   exact ⟨by simp [*], XX.out, XB0.out.trans (XO.out.mono XB0.out.size), fun g' o hne hg => blk_same (XK.out g' o hne hg) XO.out⟩
 have q1b := decide_eq_true q1
 by_cases q2 : n2 < 2
 rotate_left
 · have q2b := decide_eq_false q2
   have XO := am (below_drew1 (Below.refl X.heap.size X))
   have XX := am (Go.Proofs.YtcfinlmocgbnbaaW.PrintWords.bkD BX.out)
   refine start_ (n := 43) (S := fun w' => w'.cell? ⟨g, 0, none⟩ = some (.slice A0 su.length c0) ∧ w'.cell? ⟨g, 1, none⟩ = some (.slice A1 so.length c1) ∧ w'.cell? ⟨g, 2, none⟩ = some (.int .i64 n1) ∧ w'.cell? ⟨g, 3, none⟩ = some (.int .i64 n2) ∧ w'.cell? ⟨g, 4, none⟩ = some (.int .i64 n3)) (ds := []) #[false, false, false, false, false, false, false, false, false, false, false, false, false, false, false, false, false, false, false, false, false, false, false, false, false, false, false, false, false, false, false, false, false, false, false, false, false, false, false, false, false, false, false] (by kernel_rfl) rfl rfl (bc5 XX) (fun hHeld => ?_); refine with_tabW vread.tab2 vread.bits2 (fun HT_ HW_ => ?_)
   generalize X.drew = Y at XO XX hHeld ⊢
   refine pu_ 0 (some 26) HT_ rfl rfl (.inl ⟨by rfl, by intro w'; go_simp; with_reducible rfl⟩) (by simp only [Act.put, sa_, s0_, s1_, i64_w, i32_w]; rfl) ?_
   refine pu_ 1 (some 27) HT_ rfl rfl (.inl ⟨by rfl, by intro w'; go_simp; with_reducible rfl⟩) (by simp only [Act.put, sa_, s0_, s1_, i64_w, i32_w]; rfl) ?_
   refine pu_ 2 (some 28) HT_ rfl rfl (.inl ⟨by rfl, by intro w'; go_simp; with_reducible rfl⟩) (by simp only [Act.put, sa_, s0_, s1_, i64_w, i32_w]; rfl) ?_
   refine pu_ 3 (some 29) HT_ rfl rfl (.inl ⟨by rfl, by intro w'; go_simp; with_reducible rfl⟩) (by simp only [Act.put, sa_, s0_, s1_, i64_w, i32_w]; rfl) ?_
   refine tk_ 4 (some 30) HT_ HW_ rfl rfl (.inl ⟨by rfl, by rintro w' ⟨s0, s1, s2, s3, s4⟩; go_simp; with_reducible rfl⟩) hHeld (by simp only [Act.put, sa_, s0_, s1_, i64_w, i32_w]; rfl) ?_
   refine pu_ 5 (some 31) HT_ rfl rfl (.inl ⟨by rfl, by intro w'; go_simp; with_reducible rfl⟩) (by simp only [Act.put, sa_, s0_, s1_, i64_w, i32_w]; rfl) ?_
   refine pu_ 6 (some 32) HT_ rfl rfl (.inl ⟨by rfl, by intro w'; go_simp; with_reducible rfl⟩) (by simp only [Act.put, sa_, s0_, s1_, i64_w, i32_w]; rfl) ?_
   refine pu_ 7 (some 33) HT_ rfl rfl (.inl ⟨by rfl, by intro w'; go_simp; with_reducible rfl⟩) (by simp only [Act.put, sa_, s0_, s1_, i64_w, i32_w]; rfl) ?_
   refine pu_ 8 (some 34) HT_ rfl rfl (.inl ⟨by rfl, by intro w'; go_simp; with_reducible rfl⟩) (by simp only [Act.put, sa_, s0_, s1_, i64_w, i32_w]; rfl) ?_
   refine pu_ 9 (some 35) HT_ rfl rfl (.inl ⟨by rfl, by intro w'; go_simp; with_reducible rfl⟩) (by simp only [Act.put, sa_, s0_, s1_, i64_w, i32_w]; rfl) ?_
   refine pu_ 10 (some 36) HT_ rfl rfl (.inl ⟨by rfl, by intro w'; go_simp; with_reducible rfl⟩) (by simp only [Act.put, sa_, s0_, s1_, i64_w, i32_w]; rfl) ?_
   refine tk_ 11 (some 37) HT_ HW_ rfl rfl (.inl ⟨by rfl, by rintro w' ⟨s0, s1, s2, s3, s4⟩; go_simp; with_reducible rfl⟩) hHeld (by simp only [Act.put, sa_, s0_, s1_, i64_w, i32_w]; rfl) ?_
   refine pu_ 12 (some 38) HT_ rfl rfl (.inl ⟨by rfl, by intro w'; go_simp; with_reducible rfl⟩) (by simp only [Act.put, sa_, s0_, s1_, i64_w, i32_w]; rfl) ?_
   refine pu_ 13 (some 39) HT_ rfl rfl (.inl ⟨by rfl, by intro w'; go_simp; with_reducible rfl⟩) (by simp only [Act.put, sa_, s0_, s1_, i64_w, i32_w]; rfl) ?_
   refine pu_ 14 (some 40) HT_ rfl rfl (.inl ⟨by rfl, by intro w'; go_simp; with_reducible rfl⟩) (by simp only [Act.put, sa_, s0_, s1_, i64_w, i32_w]; rfl) ?_
   refine pu_ 15 (some 41) HT_ rfl rfl (.inl ⟨by rfl, by intro w'; go_simp; with_reducible rfl⟩) (by simp only [Act.put, sa_, s0_, s1_, i64_w, i32_w]; rfl) ?_
   refine pu_ 16 (some 42) HT_ rfl rfl (.inl ⟨by rfl, by intro w'; go_simp; with_reducible rfl⟩) (by simp only [Act.put, sa_, s0_, s1_, i64_w, i32_w]; rfl) ?_
   refine pu_ 17 (some 43) HT_ rfl rfl (.inl ⟨by rfl, by intro w'; go_simp; with_reducible rfl⟩) (by simp only [Act.put, sa_, s0_, s1_, i64_w, i32_w]; rfl) ?_
   refine pu_ 18 (some 44) HT_ rfl rfl (.inl ⟨by rfl, by intro w'; go_simp; with_reducible rfl⟩) (by simp only [Act.put, sa_, s0_, s1_, i64_w, i32_w]; rfl) ?_
   refine tk_ 19 (some 45) HT_ HW_ rfl rfl (.inl ⟨by rfl, by rintro w' ⟨s0, s1, s2, s3, s4⟩; go_simp; with_reducible rfl⟩) hHeld (by simp only [Act.put, sa_, s0_, s1_, i64_w, i32_w]; rfl) ?_
   refine pu_ 20 (some 46) HT_ rfl rfl (.inl ⟨by rfl, by intro w'; go_simp; with_reducible rfl⟩) (by simp only [Act.put, sa_, s0_, s1_, i64_w, i32_w]; rfl) ?_
   refine pu_ 21 (some 47) HT_ rfl rfl (.inl ⟨by rfl, by intro w'; go_simp; with_reducible rfl⟩) (by simp only [Act.put, sa_, s0_, s1_, i64_w, i32_w]; rfl) ?_
   refine pu_ 22 (some 48) HT_ rfl rfl (.inl ⟨by rfl, by intro w'; go_simp; with_reducible rfl⟩) (by simp only [Act.put, sa_, s0_, s1_, i64_w, i32_w]; rfl) ?_
   refine pu_ 23 (some 49) HT_ rfl rfl (.inr ⟨by rfl, rfl⟩) (by simp only [Act.put, sa_, s0_, s1_, i64_w, i32_w]; rfl) ?_
   refine pu_ 24 (some 50) HT_ rfl rfl (.inr ⟨by rfl, rfl⟩) (by simp only [Act.put, sa_, s0_, s1_, i64_w, i32_w]; rfl) ?_
   refine pu_ 25 (some 51) HT_ rfl rfl (.inr ⟨by rfl, rfl⟩) (by simp only [Act.put, sa_, s0_, s1_, i64_w, i32_w]; rfl) ?_
   refine pu_ 26 (some 52) HT_ rfl rfl (.inr ⟨by rfl, rfl⟩) (by simp only [Act.put, sa_, s0_, s1_, i64_w, i32_w]; rfl) ?_
   refine pu_ 27 (some 53) HT_ rfl rfl (.inr ⟨by rfl, rfl⟩) (by simp only [Act.put, sa_, s0_, s1_, i64_w, i32_w]; rfl) ?_
   refine pu_ 28 (some 54) HT_ rfl rfl (.inr ⟨by rfl, rfl⟩) (by simp only [Act.put, sa_, s0_, s1_, i64_w, i32_w]; rfl) ?_
   refine pu_ 29 (some 55) HT_ rfl rfl (.inr ⟨by rfl, rfl⟩) (by simp only [Act.put, sa_, s0_, s1_, i64_w, i32_w]; rfl) ?_
   refine pu_ 30 (some 56) HT_ rfl rfl (.inr ⟨by rfl, rfl⟩) (by simp only [Act.put, sa_, s0_, s1_, i64_w, i32_w]; rfl) ?_
   refine pu_ 31 (some 57) HT_ rfl rfl (.inr ⟨by rfl, rfl⟩) (by simp only [Act.put, sa_, s0_, s1_, i64_w, i32_w]; rfl) ?_
   refine pu_ 32 (some 58) HT_ rfl rfl (.inr ⟨by rfl, rfl⟩) (by simp only [Act.put, sa_, s0_, s1_, i64_w, i32_w]; rfl) ?_
   refine pu_ 33 (some 59) HT_ rfl rfl (.inl ⟨by rfl, by intro w'; go_simp; with_reducible rfl⟩) (by simp only [Act.put, sa_, s0_, s1_, i64_w, i32_w]; rfl) ?_
   refine pu_ 34 (some 60) HT_ rfl rfl (.inl ⟨by rfl, by intro w'; go_simp; with_reducible rfl⟩) (by simp only [Act.put, sa_, s0_, s1_, i64_w, i32_w]; rfl) ?_
   refine pu_ 35 (some 61) HT_ rfl rfl (.inr ⟨by rfl, rfl⟩) (by simp only [Act.put, sa_, s0_, s1_, i64_w, i32_w]; rfl) ?_
   refine pu_ 36 (some 62) HT_ rfl rfl (.inr ⟨by rfl, rfl⟩) (by simp only [Act.put, sa_, s0_, s1_, i64_w, i32_w]; rfl) ?_
   refine pu_ 37 (some 63) HT_ rfl rfl (.inr ⟨by rfl, rfl⟩) (by simp only [Act.put, sa_, s0_, s1_, i64_w, i32_w]; rfl) ?_
   refine pu_ 38 (some 64) HT_ rfl rfl (.inr ⟨by rfl, rfl⟩) (by simp only [Act.put, sa_, s0_, s1_, i64_w, i32_w]; rfl) ?_
   refine pu_ 39 (some 65) HT_ rfl rfl (.inr ⟨by rfl, rfl⟩) (by simp only [Act.put, sa_, s0_, s1_, i64_w, i32_w]; rfl) ?_
   refine pu_ 40 (some 66) HT_ rfl rfl (.inr ⟨by rfl, rfl⟩) (by simp only [Act.put, sa_, s0_, s1_, i64_w, i32_w]; rfl) ?_
   refine pu_ 41 (some 67) HT_ rfl rfl (.inl ⟨by rfl, by intro w'; go_simp; with_reducible rfl⟩) (by simp only [Act.put, sa_, s0_, s1_, i64_w, i32_w]; rfl) ?_
   refine pu_ 42 (some 4) HT_ rfl rfl (.inl ⟨by rfl, by intro w'; go_simp; with_reducible rfl⟩) (by simp only [Act.put, sa_, s0_, s1_, i64_w, i32_w]; rfl) ?_
   refine done_ (done_of HT_.out (by kernel_rfl)) ?_
   go_wp2
   go_ret
   exact ⟨by simp [*], XX.out, XB0.out.trans (XO.out.mono XB0.out.size), fun g' o hne hg => blk_same (XK.out g' o hne hg) XO.out⟩
 have q2b := decide_eq_true q2
 by_cases q3 : n3 ≤ rm
 rotate_left
 · have q3b := decide_eq_false q3
   have XO := am (below_drew1 (Below.refl X.heap.size X))
   have XX := am (Go.Proofs.YtcfinlmocgbnbaaW.PrintWords.bkD BX.out)
   refine start_ (n := 43) (S := fun w' => w'.cell? ⟨g, 0, none⟩ = some (.slice A0 su.length c0) ∧ w'.cell? ⟨g, 1, none⟩ = some (.slice A1 so.length c1) ∧ w'.cell? ⟨g, 2, none⟩ = some (.int .i64 n1) ∧ w'.cell? ⟨g, 3, none⟩ = some (.int .i64 n2) ∧ w'.cell? ⟨g, 4, none⟩ = some (.int .i64 n3)) (ds := []) #[false, false, false, false, false, false, false, false, false, false, false, false, false, false, false, false, false, false, false, false, false, false, false, false, false, false, false, false, false, false, false, false, false, false, false, false, false, false, false, false, false, false, false] (by kernel_rfl) rfl rfl (bc5 XX) (fun hHeld => ?_); refine with_tabW vread.tab2 vread.bits2 (fun HT_ HW_ => ?_)
   generalize X.drew = Y at XO XX hHeld ⊢
   refine pu_ 0 (some 26) HT_ rfl rfl (.inl ⟨by rfl, by intro w'; go_simp; with_reducible rfl⟩) (by simp only [Act.put, sa_, s0_, s1_, i64_w, i32_w]; rfl) ?_
   refine pu_ 1 (some 27) HT_ rfl rfl (.inl ⟨by rfl, by intro w'; go_simp; with_reducible rfl⟩) (by simp only [Act.put, sa_, s0_, s1_, i64_w, i32_w]; rfl) ?_
   refine pu_ 2 (some 28) HT_ rfl rfl (.inl ⟨by rfl, by intro w'; go_simp; with_reducible rfl⟩) (by simp only [Act.put, sa_, s0_, s1_, i64_w, i32_w]; rfl) ?_
   refine pu_ 3 (some 29) HT_ rfl rfl (.inl ⟨by rfl, by intro w'; go_simp; with_reducible rfl⟩) (by simp only [Act.put, sa_, s0_, s1_, i64_w, i32_w]; rfl) ?_
   refine tk_ 4 (some 30) HT_ HW_ rfl rfl (.inl ⟨by rfl, by rintro w' ⟨s0, s1, s2, s3, s4⟩; go_simp; with_reducible rfl⟩) hHeld (by simp only [Act.put, sa_, s0_, s1_, i64_w, i32_w]; rfl) ?_
   refine pu_ 5 (some 31) HT_ rfl rfl (.inl ⟨by rfl, by intro w'; go_simp; with_reducible rfl⟩) (by simp only [Act.put, sa_, s0_, s1_, i64_w, i32_w]; rfl) ?_
   refine pu_ 6 (some 32) HT_ rfl rfl (.inl ⟨by rfl, by intro w'; go_simp; with_reducible rfl⟩) (by simp only [Act.put, sa_, s0_, s1_, i64_w, i32_w]; rfl) ?_
   refine pu_ 7 (some 33) HT_ rfl rfl (.inl ⟨by rfl, by intro w'; go_simp; with_reducible rfl⟩) (by simp only [Act.put, sa_, s0_, s1_, i64_w, i32_w]; rfl) ?_
   refine pu_ 8 (some 34) HT_ rfl rfl (.inl ⟨by rfl, by intro w'; go_simp; with_reducible rfl⟩) (by simp only [Act.put, sa_, s0_, s1_, i64_w, i32_w]; rfl) ?_
   refine pu_ 9 (some 35) HT_ rfl rfl (.inl ⟨by rfl, by intro w'; go_simp; with_reducible rfl⟩) (by simp only [Act.put, sa_, s0_, s1_, i64_w, i32_w]; rfl) ?_
   refine pu_ 10 (some 36) HT_ rfl rfl (.inl ⟨by rfl, by intro w'; go_simp; with_reducible rfl⟩) (by simp only [Act.put, sa_, s0_, s1_, i64_w, i32_w]; rfl) ?_
   refine tk_ 11 (some 37) HT_ HW_ rfl rfl (.inl ⟨by rfl, by rintro w' ⟨s0, s1, s2, s3, s4⟩; go_simp; with_reducible rfl⟩) hHeld (by simp only [Act.put, sa_, s0_, s1_, i64_w, i32_w]; rfl) ?_
   refine pu_ 12 (some 38) HT_ rfl rfl (.inl ⟨by rfl, by intro w'; go_simp; with_reducible rfl⟩) (by simp only [Act.put, sa_, s0_, s1_, i64_w, i32_w]; rfl) ?_
   refine pu_ 13 (some 39) HT_ rfl rfl (.inl ⟨by rfl, by intro w'; go_simp; with_reducible rfl⟩) (by simp only [Act.put, sa_, s0_, s1_, i64_w, i32_w]; rfl) ?_
   refine pu_ 14 (some 40) HT_ rfl rfl (.inl ⟨by rfl, by intro w'; go_simp; with_reducible rfl⟩) (by simp only [Act.put, sa_, s0_, s1_, i64_w, i32_w]; rfl) ?_
   refine pu_ 15 (some 41) HT_ rfl rfl (.inl ⟨by rfl, by intro w'; go_simp; with_reducible rfl⟩) (by simp only [Act.put, sa_, s0_, s1_, i64_w, i32_w]; rfl) ?_
   refine pu_ 16 (some 42) HT_ rfl rfl (.inl ⟨by rfl, by intro w'; go_simp; with_reducible rfl⟩) (by simp only [Act.put, sa_, s0_, s1_, i64_w, i32_w]; rfl) ?_
   refine pu_ 17 (some 43) HT_ rfl rfl (.inl ⟨by rfl, by intro w'; go_simp; with_reducible rfl⟩) (by simp only [Act.put, sa_, s0_, s1_, i64_w, i32_w]; rfl) ?_
   refine pu_ 18 (some 44) HT_ rfl rfl (.inl ⟨by rfl, by intro w'; go_simp; with_reducible rfl⟩) (by simp only [Act.put, sa_, s0_, s1_, i64_w, i32_w]; rfl) ?_
   refine tk_ 19 (some 45) HT_ HW_ rfl rfl (.inl ⟨by rfl, by rintro w' ⟨s0, s1, s2, s3, s4⟩; go_simp; with_reducible rfl⟩) hHeld (by simp only [Act.put, sa_, s0_, s1_, i64_w, i32_w]; rfl) ?_
   refine pu_ 20 (some 46) HT_ rfl rfl (.inl ⟨by rfl, by intro w'; go_simp; with_reducible rfl⟩) (by simp only [Act.put, sa_, s0_, s1_, i64_w, i32_w]; rfl) ?_
   refine pu_ 21 (some 47) HT_ rfl rfl (.inl ⟨by rfl, by intro w'; go_simp; with_reducible rfl⟩) (by simp only [Act.put, sa_, s0_, s1_, i64_w, i32_w]; rfl) ?_
   refine pu_ 22 (some 48) HT_ rfl rfl (.inl ⟨by rfl, by intro w'; go_simp; with_reducible rfl⟩) (by simp only [Act.put, sa_, s0_, s1_, i64_w, i32_w]; rfl) ?_
   refine pu_ 23 (some 49) HT_ rfl rfl (.inl ⟨by rfl, by intro w'; go_simp; with_reducible rfl⟩) (by simp only [Act.put, sa_, s0_, s1_, i64_w, i32_w]; rfl) ?_
   refine pu_ 24 (some 50) HT_ rfl rfl (.inl ⟨by rfl, by intro w'; go_simp; with_reducible rfl⟩) (by simp only [Act.put, sa_, s0_, s1_, i64_w, i32_w]; rfl) ?_
   refine pu_ 25 (some 51) HT_ rfl rfl (.inl ⟨by rfl, by intro w'; go_simp; with_reducible rfl⟩) (by simp only [Act.put, sa_, s0_, s1_, i64_w, i32_w]; rfl) ?_
   refine pu_ 26 (some 52) HT_ rfl rfl (.inl ⟨by rfl, by intro w'; go_simp; with_reducible rfl⟩) (by simp only [Act.put, sa_, s0_, s1_, i64_w, i32_w]; rfl) ?_
   refine tk_ 27 (some 53) HT_ HW_ rfl rfl (.inl ⟨by rfl, by rintro w' ⟨s0, s1, s2, s3, s4⟩; go_simp; with_reducible rfl⟩) hHeld (by simp only [Act.put, sa_, s0_, s1_, i64_w, i32_w]; rfl) ?_
   refine pu_ 28 (some 54) HT_ rfl rfl (.inl ⟨by rfl, by intro w'; go_simp; with_reducible rfl⟩) (by simp only [Act.put, sa_, s0_, s1_, i64_w, i32_w]; rfl) ?_
   refine pu_ 29 (some 55) HT_ rfl rfl (.inl ⟨by rfl, by intro w'; go_simp; with_reducible rfl⟩) (by simp only [Act.put, sa_, s0_, s1_, i64_w, i32_w]; rfl) ?_
   refine tk_ 30 (some 56) HT_ HW_ rfl rfl (.inl ⟨by rfl, by rintro w' ⟨s0, s1, s2, s3, s4⟩; go_simp; with_reducible rfl⟩) hHeld (by simp only [Act.put, sa_, s0_, s1_, i64_w, i32_w]; rfl) ?_
   refine on_ 31 (some 57) HT_ rfl rfl (fun K hK => ?_)
   refine goes_ Try.func58 (by kernel_rfl) rfl #[.agg #[.slice A0 su.length c0, .slice A1 so.length c1, .int .i64 n1, .int .i64 n2, .int .i64 n3]] (by rfl) rfl rfl (by (try simp only [List.map_toArray, List.map_cons, List.map_nil]) <;> rfl) ?_
   refine (r58 _ XO.out).mono ?_
   rintro e W5 ⟨rfl, hb⟩
   refine ⟨_, rfl, ?_⟩
   have m0_ := am (below_step XO.out hb); have m1_ := am (blk_same XX.out hb); clear XO XX hb; have XO := m0_; have XX := m1_; clear m0_ m1_
   refine hK.out _ _ (bc5 XX) (fun hHeld => ?_)
   clear hK K
   refine norm_ (by show Act.put _ (some 57) _ = _; simp only [Act.put, sa_, s0_, s1_, i64_w, i32_w]; rfl) ?_
   refine pu_ 32 (some 58) HT_ rfl rfl (.inl ⟨by rfl, by intro w'; go_simp; with_reducible rfl⟩) (by simp only [Act.put, sa_, s0_, s1_, i64_w, i32_w]; rfl) ?_
   refine pu_ 33 (some 59) HT_ rfl rfl (.inl ⟨by rfl, by intro w'; go_simp; with_reducible rfl⟩) (by simp only [Act.put, sa_, s0_, s1_, i64_w, i32_w]; rfl) ?_
   refine pu_ 34 (some 60) HT_ rfl rfl (.inl ⟨by rfl, by intro w'; go_simp; with_reducible rfl⟩) (by simp only [Act.put, sa_, s0_, s1_, i64_w, i32_w]; rfl) ?_
   refine pu_ 35 (some 61) HT_ rfl rfl (.inr ⟨by rfl, rfl⟩) (by simp only [Act.put, sa_, s0_, s1_, i64_w, i32_w]; rfl) ?_
   refine pu_ 36 (some 62) HT_ rfl rfl (.inr ⟨by rfl, rfl⟩) (by simp only [Act.put, sa_, s0_, s1_, i64_w, i32_w]; rfl) ?_
   refine pu_ 37 (some 63) HT_ rfl rfl (.inr ⟨by rfl, rfl⟩) (by simp only [Act.put, sa_, s0_, s1_, i64_w, i32_w]; rfl) ?_
   refine pu_ 38 (some 64) HT_ rfl rfl (.inr ⟨by rfl, rfl⟩) (by simp only [Act.put, sa_, s0_, s1_, i64_w, i32_w]; rfl) ?_
   refine pu_ 39 (some 65) HT_ rfl rfl (.inr ⟨by rfl, rfl⟩) (by simp only [Act.put, sa_, s0_, s1_, i64_w, i32_w]; rfl) ?_
   refine pu_ 40 (some 66) HT_ rfl rfl (.inr ⟨by rfl, rfl⟩) (by simp only [Act.put, sa_, s0_, s1_, i64_w, i32_w]; rfl) ?_
   refine pu_ 41 (some 67) HT_ rfl rfl (.inl ⟨by rfl, by intro w'; go_simp; with_reducible rfl⟩) (by simp only [Act.put, sa_, s0_, s1_, i64_w, i32_w]; rfl) ?_
   refine pu_ 42 (some 4) HT_ rfl rfl (.inl ⟨by rfl, by intro w'; go_simp; with_reducible rfl⟩) (by simp only [Act.put, sa_, s0_, s1_, i64_w, i32_w]; rfl) ?_
   refine done_ (done_of HT_.out (by kernel_rfl)) ?_
   go_wp2
   go_ret
   exact ⟨by simp [*], XX.out, XB0.out.trans (XO.out.mono XB0.out.size), fun g' o hne hg => blk_same (XK.out g' o hne hg) XO.out⟩
 have q3b := decide_eq_true q3
 by_cases q4 : hd.toList = s.toList
 rotate_left
 · have q4b := decide_eq_false q4
   have XO := am (below_drew1 (Below.refl X.heap.size X))
   have XX := am (Go.Proofs.YtcfinlmocgbnbaaW.PrintWords.bkD BX.out)
   refine start_ (n := 43) (S := fun w' => w'.cell? ⟨g, 0, none⟩ = some (.slice A0 su.length c0) ∧ w'.cell? ⟨g, 1, none⟩ = some (.slice A1 so.length c1) ∧ w'.cell? ⟨g, 2, none⟩ = some (.int .i64 n1) ∧ w'.cell? ⟨g, 3, none⟩ = some (.int .i64 n2) ∧ w'.cell? ⟨g, 4, none⟩ = some (.int .i64 n3)) (ds := []) #[false, false, false, false, false, false, false, false, false, false, false, false, false, false, false, false, false, false, false, false, false, false, false, false, false, false, false, false, false, false, false, false, false, false, false, false, false, false, false, false, false, false, false] (by kernel_rfl) rfl rfl (bc5 XX) (fun hHeld => ?_); refine with_tabW vread.tab2 vread.bits2 (fun HT_ HW_ => ?_)
   generalize X.drew = Y at XO XX hHeld ⊢
   refine pu_ 0 (some 26) HT_ rfl rfl (.inl ⟨by rfl, by intro w'; go_simp; with_reducible rfl⟩) (by simp only [Act.put, sa_, s0_, s1_, i64_w, i32_w]; rfl) ?_
   refine pu_ 1 (some 27) HT_ rfl rfl (.inl ⟨by rfl, by intro w'; go_simp; with_reducible rfl⟩) (by simp only [Act.put, sa_, s0_, s1_, i64_w, i32_w]; rfl) ?_
   refine pu_ 2 (some 28) HT_ rfl rfl (.inl ⟨by rfl, by intro w'; go_simp; with_reducible rfl⟩) (by simp only [Act.put, sa_, s0_, s1_, i64_w, i32_w]; rfl) ?_
   refine pu_ 3 (some 29) HT_ rfl rfl (.inl ⟨by rfl, by intro w'; go_simp; with_reducible rfl⟩) (by simp only [Act.put, sa_, s0_, s1_, i64_w, i32_w]; rfl) ?_
   refine tk_ 4 (some 30) HT_ HW_ rfl rfl (.inl ⟨by rfl, by rintro w' ⟨s0, s1, s2, s3, s4⟩; go_simp; with_reducible rfl⟩) hHeld (by simp only [Act.put, sa_, s0_, s1_, i64_w, i32_w]; rfl) ?_
   refine pu_ 5 (some 31) HT_ rfl rfl (.inl ⟨by rfl, by intro w'; go_simp; with_reducible rfl⟩) (by simp only [Act.put, sa_, s0_, s1_, i64_w, i32_w]; rfl) ?_
   refine pu_ 6 (some 32) HT_ rfl rfl (.inl ⟨by rfl, by intro w'; go_simp; with_reducible rfl⟩) (by simp only [Act.put, sa_, s0_, s1_, i64_w, i32_w]; rfl) ?_
   refine pu_ 7 (some 33) HT_ rfl rfl (.inl ⟨by rfl, by intro w'; go_simp; with_reducible rfl⟩) (by simp only [Act.put, sa_, s0_, s1_, i64_w, i32_w]; rfl) ?_
   refine pu_ 8 (some 34) HT_ rfl rfl (.inl ⟨by rfl, by intro w'; go_simp; with_reducible rfl⟩) (by simp only [Act.put, sa_, s0_, s1_, i64_w, i32_w]; rfl) ?_
   refine pu_ 9 (some 35) HT_ rfl rfl (.inl ⟨by rfl, by intro w'; go_simp; with_reducible rfl⟩) (by simp only [Act.put, sa_, s0_, s1_, i64_w, i32_w]; rfl) ?_
   refine pu_ 10 (some 36) HT_ rfl rfl (.inl ⟨by rfl, by intro w'; go_simp; with_reducible rfl⟩) (by simp only [Act.put, sa_, s0_, s1_, i64_w, i32_w]; rfl) ?_
   refine tk_ 11 (some 37) HT_ HW_ rfl rfl (.inl ⟨by rfl, by rintro w' ⟨s0, s1, s2, s3, s4⟩; go_simp; with_reducible rfl⟩) hHeld (by simp only [Act.put, sa_, s0_, s1_, i64_w, i32_w]; rfl) ?_
   refine pu_ 12 (some 38) HT_ rfl rfl (.inl ⟨by rfl, by intro w'; go_simp; with_reducible rfl⟩) (by simp only [Act.put, sa_, s0_, s1_, i64_w, i32_w]; rfl) ?_
   refine pu_ 13 (some 39) HT_ rfl rfl (.inl ⟨by rfl, by intro w'; go_simp; with_reducible rfl⟩) (by simp only [Act.put, sa_, s0_, s1_, i64_w, i32_w]; rfl) ?_
   refine pu_ 14 (some 40) HT_ rfl rfl (.inl ⟨by rfl, by intro w'; go_simp; with_reducible rfl⟩) (by simp only [Act.put, sa_, s0_, s1_, i64_w, i32_w]; rfl) ?_
   refine pu_ 15 (some 41) HT_ rfl rfl (.inl ⟨by rfl, by intro w'; go_simp; with_reducible rfl⟩) (by simp only [Act.put, sa_, s0_, s1_, i64_w, i32_w]; rfl) ?_
   refine pu_ 16 (some 42) HT_ rfl rfl (.inl ⟨by rfl, by intro w'; go_simp; with_reducible rfl⟩) (by simp only [Act.put, sa_, s0_, s1_, i64_w, i32_w]; rfl) ?_
   refine pu_ 17 (some 43) HT_ rfl rfl (.inl ⟨by rfl, by intro w'; go_simp; with_reducible rfl⟩) (by simp only [Act.put, sa_, s0_, s1_, i64_w, i32_w]; rfl) ?_
   refine pu_ 18 (some 44) HT_ rfl rfl (.inl ⟨by rfl, by intro w'; go_simp; with_reducible rfl⟩) (by simp only [Act.put, sa_, s0_, s1_, i64_w, i32_w]; rfl) ?_
   refine tk_ 19 (some 45) HT_ HW_ rfl rfl (.inl ⟨by rfl, by rintro w' ⟨s0, s1, s2, s3, s4⟩; go_simp; with_reducible rfl⟩) hHeld (by simp only [Act.put, sa_, s0_, s1_, i64_w, i32_w]; rfl) ?_
   refine pu_ 20 (some 46) HT_ rfl rfl (.inl ⟨by rfl, by intro w'; go_simp; with_reducible rfl⟩) (by simp only [Act.put, sa_, s0_, s1_, i64_w, i32_w]; rfl) ?_
   refine pu_ 21 (some 47) HT_ rfl rfl (.inl ⟨by rfl, by intro w'; go_simp; with_reducible rfl⟩) (by simp only [Act.put, sa_, s0_, s1_, i64_w, i32_w]; rfl) ?_
   refine pu_ 22 (some 48) HT_ rfl rfl (.inl ⟨by rfl, by intro w'; go_simp; with_reducible rfl⟩) (by simp only [Act.put, sa_, s0_, s1_, i64_w, i32_w]; rfl) ?_
   refine pu_ 23 (some 49) HT_ rfl rfl (.inl ⟨by rfl, by intro w'; go_simp; with_reducible rfl⟩) (by simp only [Act.put, sa_, s0_, s1_, i64_w, i32_w]; rfl) ?_
   refine pu_ 24 (some 50) HT_ rfl rfl (.inl ⟨by rfl, by intro w'; go_simp; with_reducible rfl⟩) (by simp only [Act.put, sa_, s0_, s1_, i64_w, i32_w]; rfl) ?_
   refine pu_ 25 (some 51) HT_ rfl rfl (.inl ⟨by rfl, by intro w'; go_simp; with_reducible rfl⟩) (by simp only [Act.put, sa_, s0_, s1_, i64_w, i32_w]; rfl) ?_
   refine pu_ 26 (some 52) HT_ rfl rfl (.inl ⟨by rfl, by intro w'; go_simp; with_reducible rfl⟩) (by simp only [Act.put, sa_, s0_, s1_, i64_w, i32_w]; rfl) ?_
   refine tk_ 27 (some 53) HT_ HW_ rfl rfl (.inl ⟨by rfl, by rintro w' ⟨s0, s1, s2, s3, s4⟩; go_simp; with_reducible rfl⟩) hHeld (by simp only [Act.put, sa_, s0_, s1_, i64_w, i32_w]; rfl) ?_
   refine pu_ 28 (some 54) HT_ rfl rfl (.inl ⟨by rfl, by intro w'; go_simp; with_reducible rfl⟩) (by simp only [Act.put, sa_, s0_, s1_, i64_w, i32_w]; rfl) ?_
   refine pu_ 29 (some 55) HT_ rfl rfl (.inl ⟨by rfl, by intro w'; go_simp; with_reducible rfl⟩) (by simp only [Act.put, sa_, s0_, s1_, i64_w, i32_w]; rfl) ?_
   refine tk_ 30 (some 56) HT_ HW_ rfl rfl (.inl ⟨by rfl, by rintro w' ⟨s0, s1, s2, s3, s4⟩; go_simp; with_reducible rfl⟩) hHeld (by simp only [Act.put, sa_, s0_, s1_, i64_w, i32_w]; rfl) ?_
   refine on_ 31 (some 57) HT_ rfl rfl (fun K hK => ?_)
   refine goes_ Try.func58 (by kernel_rfl) rfl #[.agg #[.slice A0 su.length c0, .slice A1 so.length c1, .int .i64 n1, .int .i64 n2, .int .i64 n3]] (by rfl) rfl rfl (by (try simp only [List.map_toArray, List.map_cons, List.map_nil]) <;> rfl) ?_
   refine (r58 _ XO.out).mono ?_
   rintro e W5 ⟨rfl, hb⟩
   refine ⟨_, rfl, ?_⟩
   have m0_ := am (below_step XO.out hb); have m1_ := am (blk_same XX.out hb); clear XO XX hb; have XO := m0_; have XX := m1_; clear m0_ m1_
   refine hK.out _ _ (bc5 XX) (fun hHeld => ?_)
   clear hK K
   refine norm_ (by show Act.put _ (some 57) _ = _; simp only [Act.put, sa_, s0_, s1_, i64_w, i32_w]; rfl) ?_
   refine pu_ 32 (some 58) HT_ rfl rfl (.inl ⟨by rfl, by intro w'; go_simp; with_reducible rfl⟩) (by simp only [Act.put, sa_, s0_, s1_, i64_w, i32_w]; rfl) ?_
   refine pu_ 33 (some 59) HT_ rfl rfl (.inl ⟨by rfl, by intro w'; go_simp; with_reducible rfl⟩) (by simp only [Act.put, sa_, s0_, s1_, i64_w, i32_w]; rfl) ?_
   refine pu_ 34 (some 60) HT_ rfl rfl (.inl ⟨by rfl, by intro w'; go_simp; with_reducible rfl⟩) (by simp only [Act.put, sa_, s0_, s1_, i64_w, i32_w]; rfl) ?_
   refine pu_ 35 (some 61) HT_ rfl rfl (.inl ⟨by rfl, by intro w'; go_simp; with_reducible rfl⟩) (by simp only [Act.put, sa_, s0_, s1_, i64_w, i32_w]; rfl) ?_
   refine pu_ 36 (some 62) HT_ rfl rfl (.inl ⟨by rfl, by intro w'; go_simp; with_reducible rfl⟩) (by simp only [Act.put, sa_, s0_, s1_, i64_w, i32_w]; rfl) ?_
   refine tk_ 37 (some 63) HT_ HW_ rfl rfl (.inl ⟨by rfl, by rintro w' ⟨s0, s1, s2, s3, s4⟩; go_simp; with_reducible rfl⟩) hHeld (by simp only [Act.put, sa_, s0_, s1_, i64_w, i32_w]; rfl) ?_
   refine pu_ 39 (some 65) HT_ rfl rfl (.inl ⟨by rfl, by intro w'; go_simp; with_reducible rfl⟩) (by simp only [Act.put, sa_, s0_, s1_, i64_w, i32_w]; rfl) ?_
   refine on_ 38 (some 64) HT_ rfl rfl (fun K hK => ?_)
   refine goes_ Try.func56 (by kernel_rfl) rfl #[.agg #[.slice A0 su.length c0, .slice A1 so.length c1, .int .i64 n1, .int .i64 n2, .int .i64 n3]] (by rfl) rfl rfl (by (try simp only [List.map_toArray, List.map_cons, List.map_nil]) <;> rfl) ?_
   refine (r56 _ XO.out).mono ?_
   rintro e W5 ⟨rfl, hb⟩
   refine ⟨_, rfl, ?_⟩
   have m0_ := am (below_step XO.out hb); have m1_ := am (blk_same XX.out hb); clear XO XX hb; have XO := m0_; have XX := m1_; clear m0_ m1_
   refine hK.out _ _ (bc5 XX) (fun hHeld => ?_)
   clear hK K
   refine norm_ (by show Act.put _ (some 64) _ = _; simp only [Act.put, sa_, s0_, s1_, i64_w, i32_w]; rfl) ?_
   refine pu_ 40 (some 66) HT_ rfl rfl (.inl ⟨by rfl, by intro w'; go_simp; with_reducible rfl⟩) (by simp only [Act.put, sa_, s0_, s1_, i64_w, i32_w]; rfl) ?_
   refine pu_ 41 (some 67) HT_ rfl rfl (.inl ⟨by rfl, by intro w'; go_simp; with_reducible rfl⟩) (by simp only [Act.put, sa_, s0_, s1_, i64_w, i32_w]; rfl) ?_
   refine pu_ 42 (some 4) HT_ rfl rfl (.inl ⟨by rfl, by intro w'; go_simp; with_reducible rfl⟩) (by simp only [Act.put, sa_, s0_, s1_, i64_w, i32_w]; rfl) ?_
   refine done_ (done_of HT_.out (by kernel_rfl)) ?_
   go_wp2
   go_ret
   exact ⟨by simp [*], XX.out, XB0.out.trans (XO.out.mono XB0.out.size), fun g' o hne hg => blk_same (XK.out g' o hne hg) XO.out⟩
 have q4b := decide_eq_true q4
 have XO := am (below_drew1 (Below.refl X.heap.size X))
 have XX := am (Go.Proofs.YtcfinlmocgbnbaaW.PrintWords.bkD BX.out)
 refine start_ (n := 43) (S := fun w' => w'.cell? ⟨g, 0, none⟩ = some (.slice A0 su.length c0) ∧ w'.cell? ⟨g, 1, none⟩ = some (.slice A1 so.length c1) ∧ w'.cell? ⟨g, 2, none⟩ = some (.int .i64 n1) ∧ w'.cell? ⟨g, 3, none⟩ = some (.int .i64 n2) ∧ w'.cell? ⟨g, 4, none⟩ = some (.int .i64 n3)) (ds := []) #[false, false, false, false, false, false, false, false, false, false, false, false, false, false, false, false, false, false, false, false, false, false, false, false, false, false, false, false, false, false, false, false, false, false, false, false, false, false, false, false, false, false, false] (by kernel_rfl) rfl rfl (bc5 XX) (fun hHeld => ?_); refine with_tabW vread.tab2 vread.bits2 (fun HT_ HW_ => ?_)
 generalize X.drew = Y at XO XX hHeld ⊢
 refine pu_ 0 (some 26) HT_ rfl rfl (.inl ⟨by rfl, by intro w'; go_simp; with_reducible rfl⟩) (by simp only [Act.put, sa_, s0_, s1_, i64_w, i32_w]; rfl) ?_
 refine pu_ 1 (some 27) HT_ rfl rfl (.inl ⟨by rfl, by intro w'; go_simp; with_reducible rfl⟩) (by simp only [Act.put, sa_, s0_, s1_, i64_w, i32_w]; rfl) ?_
 refine pu_ 2 (some 28) HT_ rfl rfl (.inl ⟨by rfl, by intro w'; go_simp; with_reducible rfl⟩) (by simp only [Act.put, sa_, s0_, s1_, i64_w, i32_w]; rfl) ?_
 refine pu_ 3 (some 29) HT_ rfl rfl (.inl ⟨by rfl, by intro w'; go_simp; with_reducible rfl⟩) (by simp only [Act.put, sa_, s0_, s1_, i64_w, i32_w]; rfl) ?_
 refine tk_ 4 (some 30) HT_ HW_ rfl rfl (.inl ⟨by rfl, by rintro w' ⟨s0, s1, s2, s3, s4⟩; go_simp; with_reducible rfl⟩) hHeld (by simp only [Act.put, sa_, s0_, s1_, i64_w, i32_w]; rfl) ?_
 refine pu_ 5 (some 31) HT_ rfl rfl (.inl ⟨by rfl, by intro w'; go_simp; with_reducible rfl⟩) (by simp only [Act.put, sa_, s0_, s1_, i64_w, i32_w]; rfl) ?_
 refine pu_ 6 (some 32) HT_ rfl rfl (.inl ⟨by rfl, by intro w'; go_simp; with_reducible rfl⟩) (by simp only [Act.put, sa_, s0_, s1_, i64_w, i32_w]; rfl) ?_
 refine pu_ 7 (some 33) HT_ rfl rfl (.inl ⟨by rfl, by intro w'; go_simp; with_reducible rfl⟩) (by simp only [Act.put, sa_, s0_, s1_, i64_w, i32_w]; rfl) ?_
 refine pu_ 8 (some 34) HT_ rfl rfl (.inl ⟨by rfl, by intro w'; go_simp; with_reducible rfl⟩) (by simp only [Act.put, sa_, s0_, s1_, i64_w, i32_w]; rfl) ?_
 refine pu_ 9 (some 35) HT_ rfl rfl (.inl ⟨by rfl, by intro w'; go_simp; with_reducible rfl⟩) (by simp only [Act.put, sa_, s0_, s1_, i64_w, i32_w]; rfl) ?_
 refine pu_ 10 (some 36) HT_ rfl rfl (.inl ⟨by rfl, by intro w'; go_simp; with_reducible rfl⟩) (by simp only [Act.put, sa_, s0_, s1_, i64_w, i32_w]; rfl) ?_
 refine tk_ 11 (some 37) HT_ HW_ rfl rfl (.inl ⟨by rfl, by rintro w' ⟨s0, s1, s2, s3, s4⟩; go_simp; with_reducible rfl⟩) hHeld (by simp only [Act.put, sa_, s0_, s1_, i64_w, i32_w]; rfl) ?_
 refine pu_ 12 (some 38) HT_ rfl rfl (.inl ⟨by rfl, by intro w'; go_simp; with_reducible rfl⟩) (by simp only [Act.put, sa_, s0_, s1_, i64_w, i32_w]; rfl) ?_
 refine pu_ 13 (some 39) HT_ rfl rfl (.inl ⟨by rfl, by intro w'; go_simp; with_reducible rfl⟩) (by simp only [Act.put, sa_, s0_, s1_, i64_w, i32_w]; rfl) ?_
 refine pu_ 14 (some 40) HT_ rfl rfl (.inl ⟨by rfl, by intro w'; go_simp; with_reducible rfl⟩) (by simp only [Act.put, sa_, s0_, s1_, i64_w, i32_w]; rfl) ?_
 refine pu_ 15 (some 41) HT_ rfl rfl (.inl ⟨by rfl, by intro w'; go_simp; with_reducible rfl⟩) (by simp only [Act.put, sa_, s0_, s1_, i64_w, i32_w]; rfl) ?_
 refine pu_ 16 (some 42) HT_ rfl rfl (.inl ⟨by rfl, by intro w'; go_simp; with_reducible rfl⟩) (by simp only [Act.put, sa_, s0_, s1_, i64_w, i32_w]; rfl) ?_
 refine pu_ 17 (some 43) HT_ rfl rfl (.inl ⟨by rfl, by intro w'; go_simp; with_reducible rfl⟩) (by simp only [Act.put, sa_, s0_, s1_, i64_w, i32_w]; rfl) ?_
 refine pu_ 18 (some 44) HT_ rfl rfl (.inl ⟨by rfl, by intro w'; go_simp; with_reducible rfl⟩) (by simp only [Act.put, sa_, s0_, s1_, i64_w, i32_w]; rfl) ?_
 refine tk_ 19 (some 45) HT_ HW_ rfl rfl (.inl ⟨by rfl, by rintro w' ⟨s0, s1, s2, s3, s4⟩; go_simp; with_reducible rfl⟩) hHeld (by simp only [Act.put, sa_, s0_, s1_, i64_w, i32_w]; rfl) ?_
 refine pu_ 20 (some 46) HT_ rfl rfl (.inl ⟨by rfl, by intro w'; go_simp; with_reducible rfl⟩) (by simp only [Act.put, sa_, s0_, s1_, i64_w, i32_w]; rfl) ?_
 refine pu_ 21 (some 47) HT_ rfl rfl (.inl ⟨by rfl, by intro w'; go_simp; with_reducible rfl⟩) (by simp only [Act.put, sa_, s0_, s1_, i64_w, i32_w]; rfl) ?_
 refine pu_ 22 (some 48) HT_ rfl rfl (.inl ⟨by rfl, by intro w'; go_simp; with_reducible rfl⟩) (by simp only [Act.put, sa_, s0_, s1_, i64_w, i32_w]; rfl) ?_
 refine pu_ 23 (some 49) HT_ rfl rfl (.inl ⟨by rfl, by intro w'; go_simp; with_reducible rfl⟩) (by simp only [Act.put, sa_, s0_, s1_, i64_w, i32_w]; rfl) ?_
 refine pu_ 24 (some 50) HT_ rfl rfl (.inl ⟨by rfl, by intro w'; go_simp; with_reducible rfl⟩) (by simp only [Act.put, sa_, s0_, s1_, i64_w, i32_w]; rfl) ?_
 refine pu_ 25 (some 51) HT_ rfl rfl (.inl ⟨by rfl, by intro w'; go_simp; with_reducible rfl⟩) (by simp only [Act.put, sa_, s0_, s1_, i64_w, i32_w]; rfl) ?_
 refine pu_ 26 (some 52) HT_ rfl rfl (.inl ⟨by rfl, by intro w'; go_simp; with_reducible rfl⟩) (by simp only [Act.put, sa_, s0_, s1_, i64_w, i32_w]; rfl) ?_
 refine tk_ 27 (some 53) HT_ HW_ rfl rfl (.inl ⟨by rfl, by rintro w' ⟨s0, s1, s2, s3, s4⟩; go_simp; with_reducible rfl⟩) hHeld (by simp only [Act.put, sa_, s0_, s1_, i64_w, i32_w]; rfl) ?_
 refine pu_ 28 (some 54) HT_ rfl rfl (.inl ⟨by rfl, by intro w'; go_simp; with_reducible rfl⟩) (by simp only [Act.put, sa_, s0_, s1_, i64_w, i32_w]; rfl) ?_
 refine pu_ 29 (some 55) HT_ rfl rfl (.inl ⟨by rfl, by intro w'; go_simp; with_reducible rfl⟩) (by simp only [Act.put, sa_, s0_, s1_, i64_w, i32_w]; rfl) ?_
 refine tk_ 30 (some 56) HT_ HW_ rfl rfl (.inl ⟨by rfl, by rintro w' ⟨s0, s1, s2, s3, s4⟩; go_simp; with_reducible rfl⟩) hHeld (by simp only [Act.put, sa_, s0_, s1_, i64_w, i32_w]; rfl) ?_
 refine on_ 31 (some 57) HT_ rfl rfl (fun K hK => ?_)
 refine goes_ Try.func58 (by kernel_rfl) rfl #[.agg #[.slice A0 su.length c0, .slice A1 so.length c1, .int .i64 n1, .int .i64 n2, .int .i64 n3]] (by rfl) rfl rfl (by (try simp only [List.map_toArray, List.map_cons, List.map_nil]) <;> rfl) ?_
 refine (r58 _ XO.out).mono ?_
 rintro e W5 ⟨rfl, hb⟩
 refine ⟨_, rfl, ?_⟩
 have m0_ := am (below_step XO.out hb); have m1_ := am (blk_same XX.out hb); clear XO XX hb; have XO := m0_; have XX := m1_; clear m0_ m1_
 refine hK.out _ _ (bc5 XX) (fun hHeld => ?_)
 clear hK K
 refine norm_ (by show Act.put _ (some 57) _ = _; simp only [Act.put, sa_, s0_, s1_, i64_w, i32_w]; rfl) ?_
 refine pu_ 32 (some 58) HT_ rfl rfl (.inl ⟨by rfl, by intro w'; go_simp; with_reducible rfl⟩) (by simp only [Act.put, sa_, s0_, s1_, i64_w, i32_w]; rfl) ?_
 refine pu_ 33 (some 59) HT_ rfl rfl (.inl ⟨by rfl, by intro w'; go_simp; with_reducible rfl⟩) (by simp only [Act.put, sa_, s0_, s1_, i64_w, i32_w]; rfl) ?_
 refine pu_ 34 (some 60) HT_ rfl rfl (.inl ⟨by rfl, by intro w'; go_simp; with_reducible rfl⟩) (by simp only [Act.put, sa_, s0_, s1_, i64_w, i32_w]; rfl) ?_
 refine pu_ 35 (some 61) HT_ rfl rfl (.inl ⟨by rfl, by intro w'; go_simp; with_reducible rfl⟩) (by simp only [Act.put, sa_, s0_, s1_, i64_w, i32_w]; rfl) ?_
 refine pu_ 36 (some 62) HT_ rfl rfl (.inl ⟨by rfl, by intro w'; go_simp; with_reducible rfl⟩) (by simp only [Act.put, sa_, s0_, s1_, i64_w, i32_w]; rfl) ?_
 refine tk_ 37 (some 63) HT_ HW_ rfl rfl (.inl ⟨by rfl, by rintro w' ⟨s0, s1, s2, s3, s4⟩; go_simp; with_reducible rfl⟩) hHeld (by simp only [Act.put, sa_, s0_, s1_, i64_w, i32_w]; rfl) ?_
 refine pu_ 39 (some 65) HT_ rfl rfl (.inl ⟨by rfl, by intro w'; go_simp; with_reducible rfl⟩) (by simp only [Act.put, sa_, s0_, s1_, i64_w, i32_w]; rfl) ?_
 refine on_ 38 (some 64) HT_ rfl rfl (fun K hK => ?_)
 refine goes_ Try.func56 (by kernel_rfl) rfl #[.agg #[.slice A0 su.length c0, .slice A1 so.length c1, .int .i64 n1, .int .i64 n2, .int .i64 n3]] (by rfl) rfl rfl (by (try simp only [List.map_toArray, List.map_cons, List.map_nil]) <;> rfl) ?_
 refine (r56 _ XO.out).mono ?_
 rintro e W5 ⟨rfl, hb⟩
 refine ⟨_, rfl, ?_⟩
 have m0_ := am (below_step XO.out hb); have m1_ := am (blk_same XX.out hb); clear XO XX hb; have XO := m0_; have XX := m1_; clear m0_ m1_
 refine hK.out _ _ (bc5 XX) (fun hHeld => ?_)
 clear hK K
 refine norm_ (by show Act.put _ (some 64) _ = _; simp only [Act.put, sa_, s0_, s1_, i64_w, i32_w]; rfl) ?_
 refine pu_ 40 (some 66) HT_ rfl rfl (.inl ⟨by rfl, by intro w'; go_simp; with_reducible rfl⟩) (by simp only [Act.put, sa_, s0_, s1_, i64_w, i32_w]; rfl) ?_
 refine pu_ 41 (some 67) HT_ rfl rfl (.inl ⟨by rfl, by intro w'; go_simp; with_reducible rfl⟩) (by simp only [Act.put, sa_, s0_, s1_, i64_w, i32_w]; rfl) ?_
 refine pu_ 42 (some 4) HT_ rfl rfl (.inl ⟨by rfl, by intro w'; go_simp; with_reducible rfl⟩) (by simp only [Act.put, sa_, s0_, s1_, i64_w, i32_w]; rfl) ?_
 refine done_ (done_of HT_.out (by kernel_rfl)) ?_
 go_wp2
 go_ret
 exact ⟨by simp [*], XX.out, XB0.out.trans (XO.out.mono XB0.out.size), fun g' o hne hg => blk_same (XK.out g' o hne hg) XO.out⟩
end Go.Proofs.Ytcfinlmocgbnbaa.Pr
end
section
namespace Go.Proofs.Ytcfinlmocgbnbaa.Pr
open Go.Proofs.Ytcfinlmocgbnbaa.Sq Go.RowKit Go.Shelf Go.Proofs.Ytcfinlmocgbnbaa.XB Go.Proofs.YtcfinlmocgbnbaaW.PrintWords Go.Proofs.YtcfinlmocgbnbaaW.PrintLast Go.Proofs.YtcfinlmocgbnbaaW.PrintMore
set_option linter.unusedVariables false
set_option linter.unusedSimpArgs false
set_option maxRecDepth 100000
def regionAt : Code → Nat → Option Code
  | .region id ops m, k => if id == k then some (.region id ops m) else none
  | .seq a b, k => match regionAt a k with
    | some o => some o
    | none => regionAt b k
  | .cond _ a b, k => match regionAt a k with
    | some o => some o
    | none => regionAt b k
  | .block _ c, k => regionAt c k
  | .loop c, k => regionAt c k
  | .scope c, k => regionAt c k
  | _, _ => none
def vr4.T4 : Bool × List (List Nat × List Nat) := (true, [([], []), ([0], [0]), ([], []), ([2], [2]), ([], []), ([], []), ([4, 1, 0, 1, 4, 5], [1, 4]), ([5, 3, 6, 0, 1, 2, 3, 4, 5, 6], [3, 5])])
def vr4.B4 : List Nat := [0, 1, 0, 4, 0, 0, 51, 127]
theorem vr4.tab4 : rtab .any (opsOf Try.f36 4) = vr4.T4 := by kernel_rfl
theorem vr4.bits4 : waitsOk vr4.T4.2 vr4.B4 = true := by kernel_rfl
noncomputable def vr4code : Code := ((Try.f36.body.bind fun c => regionAt c 4)).getD .skip
set_option maxHeartbeats 8000000 in
theorem vr4_r {Q : Exit → Act → World → Prop} (gv : Nat) {su : List ByteArray} {so : List S24} {A0 A1 : Option Addr} {c0 c1 : Nat} {sq hf ln : Int} (w : World) (hp : ∀ c a (m : Nat) v w, Q (.panic c) (a.put (some m) v) w → Q (.panic c) a w)
    (hv : w.heap[gv]? = some (.cells #[.slice A0 su.length c0, .slice A1 so.length c1, .int .i64 sq, .int .i64 hf, .int .i64 ln] 56 (0, 0)))
    {p0 p2 p3 p6 p7 p8 p9 p10 p11 p12 p13 p14 p15 p16 p17 p18 p19 p20 p21 p22 p23 p24 p29 p30 p31 p32 p33 p34 p35 p36 p37 p38 p39 p40 p41 p42 p43 p44 p45 p46 p47 p48 p49 p50 p51 p52 p53 p54 p55 p56 p57 p58 p59 p60 p61 p62 p63 p64 p65 p66 p67 p68 p69 p70 p71 p72 p73 p74 p75 p76 p77 : Value} {u4 u5 u25 u26 u27 u28 : Value}
    (hQ : ∀ (g4 g5 : Nat) (v25 v26 v27 v28 : Value) (W' : World), g4 ≠ g5 → w.heap.size ≤ g4 → w.heap.size ≤ g5 → Below w.heap.size w W' → W'.heap[g4]? = some (.cells #[.slice A0 su.length c0, .slice A1 so.length c1, .int .i64 sq, .int .i64 hf, .int .i64 ln] 89 (0, 0)) → W'.heap[g5]? = some (.cells #[.slice A0 su.length c0, .slice A1 so.length c1, .int .i64 sq, .int .i64 hf, .int .i64 ln] 89 (0, 0)) → Q .normal ⟨#[p0, .pointer (some ⟨gv, 0, none⟩), p2, p3, .pointer (some ⟨g4, 0, none⟩), .pointer (some ⟨g5, 0, none⟩), p6, p7, p8, p9, p10, p11, p12, p13, p14, p15, p16, p17, p18, p19, p20, p21, p22, p23, p24, v25, v26, v27, v28, p29, p30, p31, p32, p33, p34, p35, p36, p37, p38, p39, p40, p41, p42, p43, p44, p45, p46, p47, p48, p49, p50, p51, p52, p53, p54, p55, p56, p57, p58, p59, p60, p61, p62, p63, p64, p65, p66, p67, p68, p69, p70, p71, p72, p73, p74, p75, p76, p77], []⟩ W') :
    Code.wp Try.prog vr4code Q ⟨#[p0, .pointer (some ⟨gv, 0, none⟩), p2, p3, u4, u5, p6, p7, p8, p9, p10, p11, p12, p13, p14, p15, p16, p17, p18, p19, p20, p21, p22, p23, p24, u25, u26, u27, u28, p29, p30, p31, p32, p33, p34, p35, p36, p37, p38, p39, p40, p41, p42, p43, p44, p45, p46, p47, p48, p49, p50, p51, p52, p53, p54, p55, p56, p57, p58, p59, p60, p61, p62, p63, p64, p65, p66, p67, p68, p69, p70, p71, p72, p73, p74, p75, p76, p77], []⟩ w := by
 conv => arg 2; whnf
 have HO := am (below_drew1 (Below.refl w.heap.size w))
 have BB := am (Go.Proofs.YtcfinlmocgbnbaaW.PrintWords.bkD hv)
 have l0 : w.heap.size ≤ w.drew.heap.size := HO.out.size
 have lv : gv < w.heap.size := Go.Proofs.YtcfinlmocgbnbaaW.PrintWords.blk_lt hv
 clear hv
 refine start_ (n := 8) (S := fun w' => w'.cell? ⟨gv, 0, none⟩ = some (.slice A0 su.length c0) ∧ w'.cell? ⟨gv, 1, none⟩ = some (.slice A1 so.length c1) ∧ w'.cell? ⟨gv, 2, none⟩ = some (.int .i64 sq) ∧ w'.cell? ⟨gv, 3, none⟩ = some (.int .i64 hf) ∧ w'.cell? ⟨gv, 4, none⟩ = some (.int .i64 ln)) (ds := []) #[false, false, false, false, false, false, false, false] (by kernel_rfl) rfl rfl (bc5 BB) (fun hHeld => ?_); refine with_tabW vr4.tab4 vr4.bits4 (fun HT_ HW_ => ?_)
 generalize w.drew = w0 at HO BB hHeld l0 ⊢
 refine tk_ 0 (some 25) HT_ HW_ rfl rfl (.inl ⟨by rfl, by rintro w' ⟨s0, s1, s2, s3, s4⟩; go_simp; with_reducible rfl⟩) hHeld (by simp only [Act.put, sa_, s0_, s1_, i64_w, i32_w]; rfl) ?_ (by kernel_rfl) (fun c a w h => hp c a _ _ w h)
 refine tk_ 2 (some 27) HT_ HW_ rfl rfl (.inl ⟨by rfl, by rintro w' ⟨s0, s1, s2, s3, s4⟩; go_simp; with_reducible rfl⟩) hHeld (by simp only [Act.put, sa_, s0_, s1_, i64_w, i32_w]; rfl) ?_ (by kernel_rfl) (fun c a w h => hp c a _ _ w h)
 refine pu_ 1 (some 26) HT_ rfl rfl (.inl ⟨by rfl, by intro w'; go_simp; with_reducible rfl⟩) (by simp only [Act.put, sa_, s0_, s1_, i64_w, i32_w]; rfl) ?_ (by kernel_rfl) (fun c a w h => hp c a _ _ w h)
 refine pu_ 3 (some 28) HT_ rfl rfl (.inl ⟨by rfl, by intro w'; go_simp; with_reducible rfl⟩) (by simp only [Act.put, sa_, s0_, s1_, i64_w, i32_w]; rfl) ?_ (by kernel_rfl) (fun c a w h => hp c a _ _ w h)
 refine two_ (i := 4) (j := 5) (Ni := some 4) (Nj := some 5) #[true, true, true, true, true, false, false, false] #[true, true, true, true, false, true, false, false] rfl rfl rfl rfl (two_of HT_.out (by kernel_rfl)) (by decide) (by decide) (fun K hK => ?_) (fun K hK => ?_)
 ·skip
  refine box_step ?hg (N := 4) ?hd (cs := #[.slice none 0 0, .slice none 0 0, .int .i64 0, .int .i64 0, .int .i64 0]) (t := 89) ?hr ?_; (case hd => rfl); (case hg => rfl); (case hr => first | (go_simp; done) | (go_simp; rfl))
  intro g4 eg4 Wg4 Bg4 hb
  have m0_ := am (below_step HO.out hb); have m1_ := am (blk_same BB.out hb); have ha := am Bg4; clear HO BB hb Bg4; have HO := m0_; have BB := m1_; clear m0_ m1_; have l4 : w.heap.size ≤ g4 := (by subst eg4; exact l0); have n4 : gv ≠ g4 := by omega
  clear eg4
  have lw : w.heap.size ≤ Wg4.heap.size := HO.out.size
  refine hK.out _ _ (bc5 BB) (fun hHeld => ?_)
  clear hK K
  refine norm_ (by show Act.put _ (some 4) _ = _; simp only [Act.put, sa_, s0_, s1_, i64_w, i32_w]; rfl) ?_
  refine on_ 5 (some 5) HT_ rfl rfl (fun K hK => ?_)
  refine box_step ?hg (N := 5) ?hd (cs := #[.slice none 0 0, .slice none 0 0, .int .i64 0, .int .i64 0, .int .i64 0]) (t := 89) ?hr ?_; (case hd => rfl); (case hg => rfl); (case hr => first | (go_simp; done) | (go_simp; rfl))
  intro g5 eg5 Wg5 Bg5 hb
  have hne : g4 ≠ g5 := by have := Go.Proofs.YtcfinlmocgbnbaaW.PrintWords.blk_lt ha.out; omega
  have m0_ := am (below_step HO.out hb); have m1_ := am (blk_same BB.out hb); have m2_ := am (blk_same ha.out hb); have hb2 := am Bg5; clear HO BB ha hb Bg5; have HO := m0_; have BB := m1_; have ha := m2_; clear m0_ m1_ m2_; have l5 : w.heap.size ≤ g5 := (by subst eg5; exact lw); have n5 : gv ≠ g5 := by omega
  clear eg5 lw
  refine hK.out _ _ (bc5 BB) (fun hHeld => ?_)
  clear hK K
  refine norm_ (by show Act.put _ (some 5) _ = _; simp only [Act.put, sa_, s0_, s1_, i64_w, i32_w]; rfl) ?_
  refine on_ 6 none HT_ rfl rfl (fun K hK => ?_)
  have hc0 := (blk_cell (ha.out) 0).trans rfl; have hf0 := blk_frozen (ha.out) 0
  have hc1 := (blk_cell (ha.out) 1).trans rfl; have hf1 := blk_frozen (ha.out) 1
  have hc2 := (blk_cell (ha.out) 2).trans rfl; have hf2 := blk_frozen (ha.out) 2
  have hc3 := (blk_cell (ha.out) 3).trans rfl; have hf3 := blk_frozen (ha.out) 3
  have hc4 := (blk_cell (ha.out) 4).trans rfl; have hf4 := blk_frozen (ha.out) 4
  refine skip_ (by rfl) rfl (by go_simp; rfl) ?_
  have b6 : (((((Wg5.setCell ⟨g4, 0, none⟩ (.slice A0 su.length c0)).setCell ⟨g4, 1, none⟩ (.slice A1 so.length c1)).setCell ⟨g4, 2, none⟩ (.int .i64 sq)).setCell ⟨g4, 3, none⟩ (.int .i64 hf)).setCell ⟨g4, 4, none⟩ (.int .i64 ln)).heap[gv]? = some (.cells #[.slice A0 su.length c0, .slice A1 so.length c1, .int .i64 sq, .int .i64 hf, .int .i64 ln] 56 (0, 0)) := br5 BB.out (am n4)
  have k4 : (((((Wg5.setCell ⟨g4, 0, none⟩ (.slice A0 su.length c0)).setCell ⟨g4, 1, none⟩ (.slice A1 so.length c1)).setCell ⟨g4, 2, none⟩ (.int .i64 sq)).setCell ⟨g4, 3, none⟩ (.int .i64 hf)).setCell ⟨g4, 4, none⟩ (.int .i64 ln)).heap[g4]? = some (.cells #[.slice A0 su.length c0, .slice A1 so.length c1, .int .i64 sq, .int .i64 hf, .int .i64 ln] 89 (0, 0)) := bp5 ha.out
  have k5 : (((((Wg5.setCell ⟨g4, 0, none⟩ (.slice A0 su.length c0)).setCell ⟨g4, 1, none⟩ (.slice A1 so.length c1)).setCell ⟨g4, 2, none⟩ (.int .i64 sq)).setCell ⟨g4, 3, none⟩ (.int .i64 hf)).setCell ⟨g4, 4, none⟩ (.int .i64 ln)).heap[g5]? = some (.cells #[.slice none 0 0, .slice none 0 0, .int .i64 0, .int .i64 0, .int .i64 0] 89 (0, 0)) := br5 hb2.out (am (Ne.symm hne))
  clear hc0 hc1 hc2 hc3 hc4 hf0 hf1 hf2 hf3 hf4
  refine hK.out _ _ (bc5 (am b6)) (fun hHeld => ?_)
  clear hK K
  refine on_ 7 none HT_ rfl rfl (fun K hK => ?_)
  have hc0 := (blk_cell (k5) 0).trans rfl; have hf0 := blk_frozen (k5) 0
  have hc1 := (blk_cell (k5) 1).trans rfl; have hf1 := blk_frozen (k5) 1
  have hc2 := (blk_cell (k5) 2).trans rfl; have hf2 := blk_frozen (k5) 2
  have hc3 := (blk_cell (k5) 3).trans rfl; have hf3 := blk_frozen (k5) 3
  have hc4 := (blk_cell (k5) 4).trans rfl; have hf4 := blk_frozen (k5) 4
  refine skip_ (by rfl) rfl (by go_simp; rfl) ?_
  have b7 : ((((((((((Wg5.setCell ⟨g4, 0, none⟩ (.slice A0 su.length c0)).setCell ⟨g4, 1, none⟩ (.slice A1 so.length c1)).setCell ⟨g4, 2, none⟩ (.int .i64 sq)).setCell ⟨g4, 3, none⟩ (.int .i64 hf)).setCell ⟨g4, 4, none⟩ (.int .i64 ln)).setCell ⟨g5, 0, none⟩ (.slice A0 su.length c0)).setCell ⟨g5, 1, none⟩ (.slice A1 so.length c1)).setCell ⟨g5, 2, none⟩ (.int .i64 sq)).setCell ⟨g5, 3, none⟩ (.int .i64 hf)).setCell ⟨g5, 4, none⟩ (.int .i64 ln)).heap[gv]? = some (.cells #[.slice A0 su.length c0, .slice A1 so.length c1, .int .i64 sq, .int .i64 hf, .int .i64 ln] 56 (0, 0)) := br5 b6 (am n5)
  clear hc0 hc1 hc2 hc3 hc4 hf0 hf1 hf2 hf3 hf4
  refine hK.out _ _ (bc5 (am b7)) (fun hHeld => ?_)
  clear hK K
  refine done_ (done_of HT_.out (by kernel_rfl)) ?_
  exact hQ g4 g5 _ _ _ _ _ hne l4 l5 (below_set (below_set (below_set (below_set (below_set (below_set (below_set (below_set (below_set (below_set HO.out l4) l4) l4) l4) l4) l5) l5) l5) l5) l5) (br5 k4 (am hne)) (bp5 k5)
 ·skip
  refine box_step ?hg (N := 5) ?hd (cs := #[.slice none 0 0, .slice none 0 0, .int .i64 0, .int .i64 0, .int .i64 0]) (t := 89) ?hr ?_; (case hd => rfl); (case hg => rfl); (case hr => first | (go_simp; done) | (go_simp; rfl))
  intro g5 eg5 Wg5 Bg5 hb
  have m0_ := am (below_step HO.out hb); have m1_ := am (blk_same BB.out hb); have ha := am Bg5; clear HO BB hb Bg5; have HO := m0_; have BB := m1_; clear m0_ m1_; have l5 : w.heap.size ≤ g5 := (by subst eg5; exact l0); have n5 : gv ≠ g5 := by omega
  clear eg5
  have lw : w.heap.size ≤ Wg5.heap.size := HO.out.size
  refine hK.out _ _ (bc5 BB) (fun hHeld => ?_)
  clear hK K
  refine norm_ (by show Act.put _ (some 5) _ = _; simp only [Act.put, sa_, s0_, s1_, i64_w, i32_w]; rfl) ?_
  refine on_ 4 (some 4) HT_ rfl rfl (fun K hK => ?_)
  refine box_step ?hg (N := 4) ?hd (cs := #[.slice none 0 0, .slice none 0 0, .int .i64 0, .int .i64 0, .int .i64 0]) (t := 89) ?hr ?_; (case hd => rfl); (case hg => rfl); (case hr => first | (go_simp; done) | (go_simp; rfl))
  intro g4 eg4 Wg4 Bg4 hb
  have hne : g4 ≠ g5 := by have := Go.Proofs.YtcfinlmocgbnbaaW.PrintWords.blk_lt ha.out; omega
  have m0_ := am (below_step HO.out hb); have m1_ := am (blk_same BB.out hb); have m2_ := am (blk_same ha.out hb); have hb2 := am Bg4; clear HO BB ha hb Bg4; have HO := m0_; have BB := m1_; have ha := m2_; clear m0_ m1_ m2_; have l4 : w.heap.size ≤ g4 := (by subst eg4; exact lw); have n4 : gv ≠ g4 := by omega
  clear eg4 lw
  refine hK.out _ _ (bc5 BB) (fun hHeld => ?_)
  clear hK K
  refine norm_ (by show Act.put _ (some 4) _ = _; simp only [Act.put, sa_, s0_, s1_, i64_w, i32_w]; rfl) ?_
  refine on_ 6 none HT_ rfl rfl (fun K hK => ?_)
  have hc0 := (blk_cell (hb2.out) 0).trans rfl; have hf0 := blk_frozen (hb2.out) 0
  have hc1 := (blk_cell (hb2.out) 1).trans rfl; have hf1 := blk_frozen (hb2.out) 1
  have hc2 := (blk_cell (hb2.out) 2).trans rfl; have hf2 := blk_frozen (hb2.out) 2
  have hc3 := (blk_cell (hb2.out) 3).trans rfl; have hf3 := blk_frozen (hb2.out) 3
  have hc4 := (blk_cell (hb2.out) 4).trans rfl; have hf4 := blk_frozen (hb2.out) 4
  refine skip_ (by rfl) rfl (by go_simp; rfl) ?_
  have b6 : (((((Wg4.setCell ⟨g4, 0, none⟩ (.slice A0 su.length c0)).setCell ⟨g4, 1, none⟩ (.slice A1 so.length c1)).setCell ⟨g4, 2, none⟩ (.int .i64 sq)).setCell ⟨g4, 3, none⟩ (.int .i64 hf)).setCell ⟨g4, 4, none⟩ (.int .i64 ln)).heap[gv]? = some (.cells #[.slice A0 su.length c0, .slice A1 so.length c1, .int .i64 sq, .int .i64 hf, .int .i64 ln] 56 (0, 0)) := br5 BB.out (am n4)
  have k4 : (((((Wg4.setCell ⟨g4, 0, none⟩ (.slice A0 su.length c0)).setCell ⟨g4, 1, none⟩ (.slice A1 so.length c1)).setCell ⟨g4, 2, none⟩ (.int .i64 sq)).setCell ⟨g4, 3, none⟩ (.int .i64 hf)).setCell ⟨g4, 4, none⟩ (.int .i64 ln)).heap[g4]? = some (.cells #[.slice A0 su.length c0, .slice A1 so.length c1, .int .i64 sq, .int .i64 hf, .int .i64 ln] 89 (0, 0)) := bp5 hb2.out
  have k5 : (((((Wg4.setCell ⟨g4, 0, none⟩ (.slice A0 su.length c0)).setCell ⟨g4, 1, none⟩ (.slice A1 so.length c1)).setCell ⟨g4, 2, none⟩ (.int .i64 sq)).setCell ⟨g4, 3, none⟩ (.int .i64 hf)).setCell ⟨g4, 4, none⟩ (.int .i64 ln)).heap[g5]? = some (.cells #[.slice none 0 0, .slice none 0 0, .int .i64 0, .int .i64 0, .int .i64 0] 89 (0, 0)) := br5 ha.out (am (Ne.symm hne))
  clear hc0 hc1 hc2 hc3 hc4 hf0 hf1 hf2 hf3 hf4
  refine hK.out _ _ (bc5 (am b6)) (fun hHeld => ?_)
  clear hK K
  refine on_ 7 none HT_ rfl rfl (fun K hK => ?_)
  have hc0 := (blk_cell (k5) 0).trans rfl; have hf0 := blk_frozen (k5) 0
  have hc1 := (blk_cell (k5) 1).trans rfl; have hf1 := blk_frozen (k5) 1
  have hc2 := (blk_cell (k5) 2).trans rfl; have hf2 := blk_frozen (k5) 2
  have hc3 := (blk_cell (k5) 3).trans rfl; have hf3 := blk_frozen (k5) 3
  have hc4 := (blk_cell (k5) 4).trans rfl; have hf4 := blk_frozen (k5) 4
  refine skip_ (by rfl) rfl (by go_simp; rfl) ?_
  have b7 : ((((((((((Wg4.setCell ⟨g4, 0, none⟩ (.slice A0 su.length c0)).setCell ⟨g4, 1, none⟩ (.slice A1 so.length c1)).setCell ⟨g4, 2, none⟩ (.int .i64 sq)).setCell ⟨g4, 3, none⟩ (.int .i64 hf)).setCell ⟨g4, 4, none⟩ (.int .i64 ln)).setCell ⟨g5, 0, none⟩ (.slice A0 su.length c0)).setCell ⟨g5, 1, none⟩ (.slice A1 so.length c1)).setCell ⟨g5, 2, none⟩ (.int .i64 sq)).setCell ⟨g5, 3, none⟩ (.int .i64 hf)).setCell ⟨g5, 4, none⟩ (.int .i64 ln)).heap[gv]? = some (.cells #[.slice A0 su.length c0, .slice A1 so.length c1, .int .i64 sq, .int .i64 hf, .int .i64 ln] 56 (0, 0)) := br5 b6 (am n5)
  clear hc0 hc1 hc2 hc3 hc4 hf0 hf1 hf2 hf3 hf4
  refine hK.out _ _ (bc5 (am b7)) (fun hHeld => ?_)
  clear hK K
  refine done_ (done_of HT_.out (by kernel_rfl)) ?_
  exact hQ g4 g5 _ _ _ _ _ hne l4 l5 (below_set (below_set (below_set (below_set (below_set (below_set (below_set (below_set (below_set (below_set HO.out l4) l4) l4) l4) l4) l5) l5) l5) l5) l5) (br5 k4 (am hne)) (bp5 k5)
end Go.Proofs.Ytcfinlmocgbnbaa.Pr
end
section
namespace Go.Proofs.Ytcfinlmocgbnbaa.Pr
open Go.RowKit Go.Shelf Go.Proofs.Ytcfinlmocgbnbaa.XB Go.Proofs.YtcfinlmocgbnbaaW.PrintWords
attribute [local go_sem] Oper.semAt_some
set_option linter.unusedVariables false
set_option linter.unusedSimpArgs false
set_option maxRecDepth 100000
set_option maxHeartbeats 8000000 in
theorem vright_true (k : Nat) {su : List ByteArray} {A0 A1 : Option Addr} {c0 c1 : Nat} {sq hf ln m1 m2 m3 rm0 rm1 at_ : Int} {s0 s1 hd0 hd1 : ByteArray} (w : World)
    (hsu : Kd.C Kd.string w A0 su.length su) (hc0 : su.length ≤ c0) (hso : Kd.C k24 w A1 0 ([] : List S24)) (hmay : vault_may.f su [] = some true) (hq0 : 0 ≤ sq) (hlen : 2 ≤ su.length)
    (hat : Int.tmod sq 2 = at_) (hat0 : 0 ≤ at_) (hat1 : at_ ≤ 1) (hs0 : rdOf ByteArray.empty su at_ = s0) (hs1 : rdOf ByteArray.empty su (1 - at_) = s1) (z0 : 16 ≤ s0.size) (z1 : 16 ≤ s1.size)
    (h1 : vault_take_int.f (s0.extract 0 8) = some sq) (h2 : vault_take_int.f (s0.extract 8 12) = some hf) (h3 : vault_take_int.f (s0.extract 12 16) = some ln) (hrm : vault_book_room.f su [] sq hf ln = some rm0) (hhd : vault_book_head.f k su [] sq hf ln = some hd0)
    (g1 : vault_take_int.f (s1.extract 0 8) = some m1) (g2 : vault_take_int.f (s1.extract 8 12) = some m2) (g3 : vault_take_int.f (s1.extract 12 16) = some m3) (grm : vault_book_room.f su [] m1 m2 m3 = some rm1) (ghd : vault_book_head.f k su [] m1 m2 m3 = some hd1) (hm0 : 0 ≤ m1)
    (hok : (decide (sq ≤ 1099511627776) && decide (hf < 2) && decide (ln ≤ rm0) && decide (hd0.toList = s0.toList)) = true) (ov : Bool) (hov : (decide (m1 ≤ 1099511627776) && decide (m2 < 2) && decide (m3 ≤ rm1) && decide (hd1.toList = s1.toList)) = ov) (hless : ov = true → m1 < sq) :
    Calls Try.prog 36 #[.agg #[.slice A0 su.length c0, .slice A1 0 c1, .int .i64 sq, .int .i64 hf, .int .i64 ln]] w fun e w' => e = .returned (.bool true) ∧ Below w.heap.size w w' := by
  obtain ⟨ad, rfl, r0⟩ := Kd.at_string hsu at_ hat0 (by omega)
  obtain ⟨ad2, e2, r1⟩ := Kd.at_string hsu (1 - at_) (by omega) (by omega)
  obtain rfl := Option.some.inj e2
  rw [hs0] at r0
  rw [hs1] at r1
  have R0 := Lib.hid (fun W (h : Below w.heap.size w W) => (h.cell (World.block_lt_of_cell? _ _ r0)).trans r0)
  have R1 := Lib.hid (fun W (h : Below w.heap.size w W) => (h.cell (World.block_lt_of_cell? _ _ r1)).trans r1)
  have HM := Lib.hid (show ∀ W, Below w.heap.size w W → Calls Try.prog 54 #[.agg #[.slice (some ad) su.length c0, .slice A1 0 c1]] W fun e w' => e = .returned (.bool true) ∧ Below W.heap.size W w' from fun W h => vault_may.calls _ _ su _ c1 [] true W (Kd.C_below hsu h) hc0 (Kd.C_below hso h) (Nat.zero_le _) hmay)
  have HR := Lib.hid (show ∀ W g, Below w.heap.size w W → w.heap.size ≤ g → W.heap[g]? = some (.cells #[.slice (some ad) su.length c0, .slice A1 0 c1, .int .i64 sq, .int .i64 hf, .int .i64 ln] 89 (0, 0)) → Calls Try.prog 60 #[.pointer (some ⟨g, 0, none⟩), .string s0] W fun e w' => e = .returned (.bool true) ∧ w'.heap[g]? = some (.cells #[.slice (some ad) su.length c0, .slice A1 0 c1, .int .i64 sq, .int .i64 hf, .int .i64 ln] 89 (0, 0)) ∧ Below w.heap.size w w' ∧ (∀ g' o, g' ≠ g → W.heap[g']? = some o → w'.heap[g']? = some o) from fun W g hb hg hbb => by
    have h9 := vault_read_calls k g (so := []) (A1 := A1) (c1 := c1) w W hb hg hbb hsu hc0 hso (Nat.zero_le _) z0 h1 h2 h3 hrm hhd hq0
    rw [hok] at h9
    exact h9)
  have HS := Lib.hid (show ∀ W g, Below w.heap.size w W → w.heap.size ≤ g → W.heap[g]? = some (.cells #[.slice (some ad) su.length c0, .slice A1 0 c1, .int .i64 sq, .int .i64 hf, .int .i64 ln] 89 (0, 0)) → Calls Try.prog 60 #[.pointer (some ⟨g, 0, none⟩), .string s1] W fun e w' => e = .returned (.bool ov) ∧ w'.heap[g]? = some (.cells #[.slice (some ad) su.length c0, .slice A1 0 c1, .int .i64 m1, .int .i64 m2, .int .i64 m3] 89 (0, 0)) ∧ Below w.heap.size w w' ∧ (∀ g' o, g' ≠ g → W.heap[g']? = some o → w'.heap[g']? = some o) from fun W g hb hg hbb => by
    have h9 := vault_read_calls k g (so := []) (A1 := A1) (c1 := c1) w W hb hg hbb hsu hc0 hso (Nat.zero_le _) z1 g1 g2 g3 grm ghd hm0
    rw [hov] at h9
    exact h9)
  clear hok hov r0 r1 hsu hso hs0 hs1 z0 z1 h1 h2 h3 hrm hhd g1 g2 g3 grm ghd hmay
  have hq1 : ¬ sq < 0 := by omega
  go_enter Try.func36, Try.ntmps36
  go_wp2_with (first
    | (go_at_call 54; with_reducible refine (HM.out _ (below_alloc (Below.refl _ _) _)).mono ?_; rintro e W1 ⟨rfl, hb⟩; have BV := Lib.hid (blk_same (heap_alloc_new w (.cells #[.slice (some ad) su.length c0, .slice A1 0 c1, .int .i64 sq, .int .i64 hf, .int .i64 ln] 56)) hb); have W1B := Lib.hid (below_step (below_alloc (Below.refl w.heap.size w) (.cells #[.slice (some ad) su.length c0, .slice A1 0 c1, .int .i64 sq, .int .i64 hf, .int .i64 ln] 56)) hb); have bv_0 := (blk_cell BV.out 0).trans rfl; have bv_1 := (blk_cell BV.out 1).trans rfl; have bv_2 := (blk_cell BV.out 2).trans rfl; have bv_3 := (blk_cell BV.out 3).trans rfl; have bv_4 := (blk_cell BV.out 4).trans rfl; clear hb))
  refine vr4_r (so := ([] : List S24)) w.heap.size _ (by exact fun c a m v w h => h) BV.out ?_
  intro g4 g5 v25 v26 v27 v28 W2 hne hg4 hg5 hb2 b4 b5
  have hlt := Go.Proofs.YtcfinlmocgbnbaaW.PrintWords.blk_lt BV.out
  have hs1 := W1B.out.size
  have HW2 := Lib.hid (W1B.out.trans (hb2.mono W1B.out.size))
  have B4 := Lib.hid (show W2.heap[g4]? = some (.cells #[.slice (some ad) su.length c0, .slice A1 0 c1, .int .i64 sq, .int .i64 hf, .int .i64 ln] 89 (0, 0)) from b4)
  have B5 := Lib.hid (show W2.heap[g5]? = some (.cells #[.slice (some ad) su.length c0, .slice A1 0 c1, .int .i64 sq, .int .i64 hf, .int .i64 ln] 89 (0, 0)) from b5)
  have BV2 := Lib.hid (blk_same BV.out hb2)
  have l4 : w.heap.size ≤ g4 := by omega
  have l5 : w.heap.size ≤ g5 := by omega
  have n4 : w.heap.size ≠ g4 := by omega
  have n5 : w.heap.size ≠ g5 := by omega
  have nf : g5 ≠ g4 := fun e => hne e.symm
  clear bv_0 bv_1 bv_2 bv_3 bv_4 BV W1B b4 b5 hb2 hlt hs1 hg4 hg5 HM
  have q0 : at_ < (su.length : Int) := by omega
  have q1 : 0 ≤ 1 - at_ := by omega
  have q2 : 1 - at_ < (su.length : Int) := by omega
  have bv_0 := (blk_cell BV2.out 0).trans rfl
  have bv_1 := (blk_cell BV2.out 1).trans rfl
  have bv_2 := (blk_cell BV2.out 2).trans rfl
  have bv_3 := (blk_cell BV2.out 3).trans rfl
  have bv_4 := (blk_cell BV2.out 4).trans rfl
  have rr := R0.out W2 HW2.out
  cases ov with
  | false =>
    go_wp2_with (first
      | (go_at_call 60; with_reducible refine (HR.out _ _ HW2.out l4 B4.out).mono ?_; rintro e W3 ⟨rfl, k4, hb3, kp⟩; have HW3 := Lib.hid hb3; have B4b := Lib.hid k4; have B5b := Lib.hid (kp g5 _ nf B5.out); have BV3 := Lib.hid (kp _ _ n4 BV2.out); clear k4 hb3 kp rr bv_0 bv_1 bv_2 bv_3 bv_4; have bv_0 := (blk_cell BV3.out 0).trans rfl; have bv_1 := (blk_cell BV3.out 1).trans rfl; have bv_2 := (blk_cell BV3.out 2).trans rfl; have bv_3 := (blk_cell BV3.out 3).trans rfl; have bv_4 := (blk_cell BV3.out 4).trans rfl; have b4_0 := (blk_cell B4b.out 0).trans rfl; have b4_1 := (blk_cell B4b.out 1).trans rfl; have b4_2 := (blk_cell B4b.out 2).trans rfl; have b4_3 := (blk_cell B4b.out 3).trans rfl; have b4_4 := (blk_cell B4b.out 4).trans rfl; have rr := R1.out W3 HW3.out)
      | (go_at_call 60; with_reducible refine (HS.out _ _ HW3.out l5 B5b.out).mono ?_; rintro e W4 ⟨rfl, k5, hb4, kp⟩; have HW4 := Lib.hid hb4; have B5c := Lib.hid k5; have BV4 := Lib.hid (kp _ _ n5 BV3.out); clear k5 hb4 kp rr bv_0 bv_1 bv_2 bv_3 bv_4 b4_0 b4_1 b4_2 b4_3 b4_4; have bv_0 := (blk_cell BV4.out 0).trans rfl; have bv_1 := (blk_cell BV4.out 1).trans rfl; have bv_2 := (blk_cell BV4.out 2).trans rfl; have bv_3 := (blk_cell BV4.out 3).trans rfl; have bv_4 := (blk_cell BV4.out 4).trans rfl; have b5_0 := (blk_cell B5c.out 0).trans rfl; have b5_1 := (blk_cell B5c.out 1).trans rfl; have b5_2 := (blk_cell B5c.out 2).trans rfl; have b5_3 := (blk_cell B5c.out 3).trans rfl; have b5_4 := (blk_cell B5c.out 4).trans rfl))
    go_ret
    exact ⟨rfl, HW4.out⟩
  | true =>
    have hm := hless rfl
    go_wp2_with (first
      | (go_at_call 60; with_reducible refine (HR.out _ _ HW2.out l4 B4.out).mono ?_; rintro e W3 ⟨rfl, k4, hb3, kp⟩; have HW3 := Lib.hid hb3; have B4b := Lib.hid k4; have B5b := Lib.hid (kp g5 _ nf B5.out); have BV3 := Lib.hid (kp _ _ n4 BV2.out); clear k4 hb3 kp rr bv_0 bv_1 bv_2 bv_3 bv_4; have bv_0 := (blk_cell BV3.out 0).trans rfl; have bv_1 := (blk_cell BV3.out 1).trans rfl; have bv_2 := (blk_cell BV3.out 2).trans rfl; have bv_3 := (blk_cell BV3.out 3).trans rfl; have bv_4 := (blk_cell BV3.out 4).trans rfl; have b4_0 := (blk_cell B4b.out 0).trans rfl; have b4_1 := (blk_cell B4b.out 1).trans rfl; have b4_2 := (blk_cell B4b.out 2).trans rfl; have b4_3 := (blk_cell B4b.out 3).trans rfl; have b4_4 := (blk_cell B4b.out 4).trans rfl; have rr := R1.out W3 HW3.out)
      | (go_at_call 60; with_reducible refine (HS.out _ _ HW3.out l5 B5b.out).mono ?_; rintro e W4 ⟨rfl, k5, hb4, kp⟩; have HW4 := Lib.hid hb4; have B5c := Lib.hid k5; have BV4 := Lib.hid (kp _ _ n5 BV3.out); clear k5 hb4 kp rr bv_0 bv_1 bv_2 bv_3 bv_4 b4_0 b4_1 b4_2 b4_3 b4_4; have bv_0 := (blk_cell BV4.out 0).trans rfl; have bv_1 := (blk_cell BV4.out 1).trans rfl; have bv_2 := (blk_cell BV4.out 2).trans rfl; have bv_3 := (blk_cell BV4.out 3).trans rfl; have bv_4 := (blk_cell BV4.out 4).trans rfl; have b5_0 := (blk_cell B5c.out 0).trans rfl; have b5_1 := (blk_cell B5c.out 1).trans rfl; have b5_2 := (blk_cell B5c.out 2).trans rfl; have b5_3 := (blk_cell B5c.out 3).trans rfl; have b5_4 := (blk_cell B5c.out 4).trans rfl))
    go_ret
    exact ⟨rfl, HW4.out⟩
end Go.Proofs.Ytcfinlmocgbnbaa.Pr
end
section
namespace Go.Proofs.Ytcfinlmocgbnbaa.Pr
open Go.RowKit Go.Shelf Go.Proofs.Ytcfinlmocgbnbaa.XB Go.Proofs.YtcfinlmocgbnbaaW.PrintWords
attribute [local go_sem] Oper.semAt_some
set_option linter.unusedVariables false
set_option linter.unusedSimpArgs false
set_option maxRecDepth 100000
set_option maxHeartbeats 8000000 in
theorem vroom_true {su : List ByteArray} {A0 A1 : Option Addr} {c0 c1 : Nat} {sq hf ln rm : Int} (w : World)
    (hsu : Kd.C Kd.string w A0 su.length su) (hc0 : su.length ≤ c0) (hso : Kd.C k24 w A1 0 ([] : List S24))
    (hR : ∀ W, Below w.heap.size w W → Calls Try.prog 36 #[.agg #[.slice A0 su.length c0, .slice A1 0 c1, .int .i64 sq, .int .i64 hf, .int .i64 ln]] W fun e w' => e = .returned (.bool true) ∧ Below W.heap.size W w')
    (hrm : vault_book_room.f su [] sq hf ln = some rm) :
    Calls Try.prog 31 #[.agg #[.slice A0 su.length c0, .slice A1 0 c1, .int .i64 sq, .int .i64 hf, .int .i64 ln]] w fun e w' => e = .returned (.int .i64 rm) ∧ Below w.heap.size w w' := by
  have HR := Lib.hid hR
  have HM := Lib.hid (show ∀ W, Below w.heap.size w W → Calls Try.prog 58 #[.agg #[.slice A0 su.length c0, .slice A1 0 c1, .int .i64 sq, .int .i64 hf, .int .i64 ln]] W fun e w' => e = .returned (.int .i64 rm) ∧ Below W.heap.size W w' from fun W h => vault_book_room.calls _ _ su _ c1 [] sq hf ln rm W (Kd.C_below hsu h) hc0 (Kd.C_below hso h) (Nat.zero_le _) hrm)
  clear hR hsu hc0 hso hrm
  go_enter Try.func31, Try.ntmps31
  go_wp2_with (first
    | (go_at_call 36; with_reducible refine (HR.out _ (below_alloc (Below.refl _ _) _)).mono ?_; rintro e W1 ⟨rfl, hb⟩; have BV := Lib.hid (blk_same (heap_alloc_new w (.cells #[.slice A0 su.length c0, .slice A1 0 c1, .int .i64 sq, .int .i64 hf, .int .i64 ln] 56)) hb); have W1B := Lib.hid (below_step (below_alloc (Below.refl w.heap.size w) (.cells #[.slice A0 su.length c0, .slice A1 0 c1, .int .i64 sq, .int .i64 hf, .int .i64 ln] 56)) hb); have bv_0 := (blk_cell BV.out 0).trans rfl; have bv_1 := (blk_cell BV.out 1).trans rfl; have bv_2 := (blk_cell BV.out 2).trans rfl; have bv_3 := (blk_cell BV.out 3).trans rfl; have bv_4 := (blk_cell BV.out 4).trans rfl; clear hb)
    | (go_at_call 58; with_reducible refine (HM.out _ W1B.out).mono ?_; rintro e W2 ⟨rfl, hb⟩; have W2B := Lib.hid (below_step W1B.out hb); clear hb))
  go_ret
  exact ⟨rfl, W2B.out⟩
set_option maxHeartbeats 8000000 in
theorem vblocks_calls {A0 A1 : Option Addr} {n0 c0 n1 c1 : Nat} {sq hf ln half : Int} (w : World) :
    Calls Try.prog 62 #[.agg #[.slice A0 n0 c0, .slice A1 n1 c1, .int .i64 sq, .int .i64 hf, .int .i64 ln], .int .i64 half] w fun e w' => ∃ g1 g2 : Nat, e = .returned (.func (.func 81) #[] #[.pointer (some ⟨g1, 0, none⟩), .pointer (some ⟨g2, 0, none⟩)]) ∧
      w'.heap[g1]? = some (.cells #[.slice A0 n0 c0, .slice A1 n1 c1, .int .i64 sq, .int .i64 hf, .int .i64 ln] 89 (0, 0)) ∧ w'.heap[g2]? = some (.cells #[.int .i64 half] 3 (0, 0)) ∧ Below w.heap.size w w' := by
  go_enter Try.func62, Try.ntmps62
  go_wp2
  go_ret
  exact ⟨_, _, rfl, bkA (heap_alloc_new w _) _, heap_alloc2_new w _ _, below_alloc (below_alloc (Below.refl _ _) _) _⟩
end Go.Proofs.Ytcfinlmocgbnbaa.Pr
end
section
set_option linter.unusedVariables false
namespace Go.Proofs.Ytcfinlmocgbnbaa.XB
open Go.RowKit Go.Shelf Go.Proofs.YtcfinlmocgbnbaaW.PrintWords
attribute [local go_sem] Oper.semAt_some
variable {F : Fence} {n : Nat} {P : Program}
theorem room_none {F : Fence} (hd : F.depth = none) (k : Nat) : F.room k := fun d h => by rw [hd] at h; cases h
def KK (B : Nat) (W W' : World) : Prop := W.heap.size ≤ W'.heap.size ∧ ∀ k, B ≤ k → k < W.heap.size → W'.heap[k]? = W.heap[k]?
theorem KK.keeps {B : Nat} {W W' : World} (h : KK B W W') : KeepsFrom B W W' := ⟨h.1, fun k o hk ho _ => (h.2 k hk (blk_lt ho)).trans ho⟩
theorem KK.trans {B : Nat} {W1 W2 W3 : World} (h : KK B W1 W2) (k : KK B W2 W3) : KK B W1 W3 := ⟨Nat.le_trans h.1 k.1, fun i hi hl => (k.2 i hi (Nat.lt_of_lt_of_le hl h.1)).trans (h.2 i hi hl)⟩
theorem KK.mono {B B' : Nat} {W W' : World} (h : KK B W W') (hB : B ≤ B') : KK B' W W' := ⟨h.1, fun k hk hl => h.2 k (Nat.le_trans hB hk) hl⟩
theorem KK.below {B : Nat} {W W' : World} (h : Below W.heap.size W W') : KK B W W' := ⟨h.size, fun k _ hl => h.block k hl⟩
theorem KK.put {B l : Nat} {W : World} (o : Obj) (hl : l < B) : KK B W (W.putObj l o) := by
  have g := grownBy_putObj' W l o
  exact ⟨g.size, fun k hk hlt => g.block k hlt (fun e => by injection e with e; omega)⟩
theorem KK.set {B : Nat} {W : World} (p : Addr) (u : Value) (hp : p.block < B) : KK B W (W.setCell p u) := ⟨by simp, fun k hk hlt => Below.heap_setCell W p u k (by omega)⟩
def IterOnce (F : Fence) (n : Nat) (P : Program) (g : Nat) (lb : Array Value) (v : Array Value) (Start : World → Prop) : Prop :=
  ∀ (l : Nat) (J Jx : World → Prop) (W : World), Start W → (∀ A B, J A → Below W.heap.size A B → J B) → (∀ A B, Jx A → Below W.heap.size A B → Jx B) →
    (∀ W1, J W1 → YieldAt F (n - 1) P l v W1 fun e W' => e = .returned (.bool false) ∧ Jx W' ∧ KK W.heap.size W1 W') →
    J W →
    CallsIn F n P g (#[.func (.yield l) #[] #[]] ++ lb) W fun e W' => (∃ v, e = .returned v) ∧ Jx W'
def oncePost (B : Nat) (Ix : World → Prop) (W : World) : Exit → Act → World → Prop
  | .ret, _, W' => KK B W W' ∧ Ix W'
  | _, _, _ => False
theorem wp_range_once {g : Operand} {ps : Array Tmp} {assign body : Code} {Q : Exit → Act → World → Prop} {a : Act} {w : World}
    (hro : F.round = none) (h1 : 1 ≤ n) {gf : Nat} {lb : Array Value} (hg : a.eval g = .func (.func gf) #[] lb) (hFg : F.fn gf) (eg : ∀ args w, (callFunc gf args).run P w = .ok (.enter gf args) w)
    {v : Array Value} {Start : World → Prop} (hseq : IterOnce F (n - 1) P gf lb v Start) (hStart : ∀ A B, Start A → Below w.heap.size A B → Start B) (hs0 : Start w) (hps : v.size = ps.size)
    (I Ix : World → Prop) (hI : ∀ A B, I A → Below w.heap.size A B → I B) (hIx : ∀ A B, Ix A → Below w.heap.size A B → Ix B) (h0 : I w) (a₁ : Act)
    (hassign : ∀ (l : Nat) (W : World) (K : Act → World → Prop), K a₁ W → assign.wpIn (F.inRound l) (n - 1 - 1) P (Exit.then K (fun _ _ _ => False)) { tmps := (ps.zip v).foldl (fun t (p, v) => t.setIfInBounds p v) a.tmps, defers := [] } W)
    (hbody : ∀ (l : Nat) (W : World), I W → body.wpIn (F.inRound l) (n - 1 - 1) P (oncePost w.heap.size Ix W) a₁ W)
    (hstop : ∀ (D : Nat) (W : World), w.heap.size ≤ D → Ix W → W.heap[D]? = some (.deferred (some [])) → Code.ret.wpIn F n P Q { a with defers := { target := .collected D, args := #[] } :: a.defers } W) :
    (Code.rangeFunc g ps assign body).wpIn F n P Q a w := by
  refine wpIn_rangeFunc ?_
  intro fn hfn
  rw [hro]
  obtain ⟨rec, hrec⟩ : ∃ rec : LoopState → Option Code → Loop, rec = fun st pe => { state := st, pending := pe, fn, tmps := a.tmps, params := ps, assign, body, defers := w.heap.size } := ⟨_, rfl⟩
  obtain ⟨W1, hW1⟩ : ∃ W1, (w.alloc (.deferred (some []))).alloc (.loop (rec .ready none)) = W1 := ⟨_, rfl⟩
  have hL1 : W1.heap[w.heap.size + 1]? = some (.loop (rec .ready none)) := by
    rw [← hW1]; have := World.alloc_heap_new (w.alloc (.deferred (some []))) (.loop (rec .ready none)); rwa [World.size_alloc] at this
  have hK1 : W1.heap[w.heap.size]? = some (.deferred (some [])) := by
    rw [← hW1]; exact (Below.heap_alloc _ _ _ (by simp)).trans (World.alloc_heap_new w _)
  have hz : W1.heap.size = w.heap.size + 2 := by rw [← hW1]; simp
  have hb1 : Below w.heap.size w W1 := by rw [← hW1]; exact below_alloc (below_alloc (Below.refl w.heap.size w) _) _
  have hput : ∀ (W : World) (o : Obj), w.heap.size + 1 < W.heap.size → Below w.heap.size W (W.putObj (w.heap.size + 1) o) := fun W o hlt => Below.grown (Below.refl _ W) (grownBy_putObj' W _ o) (by omega) (fun k e => by cases e; omega)
  refine ⟨w.heap.size + 1, [{ target := .collected w.heap.size, args := #[] }], W1, { target := .fn (.func gf) lb, args := #[.func (.yield (w.heap.size + 1)) #[] #[]] }, W1, gf,
    #[.func (.yield (w.heap.size + 1)) #[] #[]] ++ lb, W1, ?_, ?_, ?_, ?_, fun _ => h1, ?_⟩
  · rw [← hW1, hrec]; exact run_enterLoop_outer _ _ _ _ _
  · simp only [resolve, hg]
    simp [go_sem]
  · intro f' hf'; simp [Target.leads] at hf'; subst hf'; exact hFg
  · simp [invoke, go_sem, eg]
  · refine (hseq (w.heap.size + 1)
      (fun W => I W ∧ W.heap[w.heap.size + 1]? = some (.loop (rec .ready none)) ∧ W.heap[w.heap.size]? = some (.deferred (some [])))
      (fun W => Ix W ∧ W.heap[w.heap.size + 1]? = some (.loop (rec .done (some .ret))) ∧ W.heap[w.heap.size]? = some (.deferred (some [])))
      W1 (hStart _ _ hs0 hb1)
      (fun A B hs ht => ⟨hI A B hs.1 (ht.mono (by omega)), (ht.block _ (by omega)).trans hs.2.1, (ht.block _ (by omega)).trans hs.2.2⟩)
      (fun A B hs ht => ⟨hIx A B hs.1 (ht.mono (by omega)), (ht.block _ (by omega)).trans hs.2.1, (ht.block _ (by omega)).trans hs.2.2⟩)
      ?_ ⟨hI _ _ h0 hb1, hL1, hK1⟩).mono ?_
    · rintro W ⟨hi, hl, hk⟩
      have hlt : w.heap.size + 1 < W.heap.size := blk_lt hl
      have hy := run_yield (P := P) (args := v) hl (by rw [hrec]; exact hps)
      rw [hrec] at hy
      refine ⟨fn, _, assign, body, hy, roundIn_of_wpIn hfn (hassign _ W _ ⟨_, run_beginRound hl (by rw [hrec]), ?_⟩)⟩
      have hl2 : (W.putObj (w.heap.size + 1) (.loop { rec .ready none with state := .busy })).heap[w.heap.size + 1]? = some (.loop { rec .ready none with state := .busy }) := World.putObj_heap_same hlt
      have hk2 : (W.putObj (w.heap.size + 1) (.loop { rec .ready none with state := .busy })).heap[w.heap.size]? = some (.deferred (some [])) := (World.putObj_heap_other (by omega)).trans hk
      refine wpIn_mono (hbody _ _ (hI _ _ hi (hput W _ hlt))) ?_
      rintro e a3 W3 hp
      cases e with
      | ret =>
        obtain ⟨hk3, hi3⟩ := hp
        have hl3 := hk3.keeps.same _ _ (by omega) hl2 rfl
        have hlt3 := blk_lt hl3
        have hr := run_endRound (P := P) (some .ret) hl3
        refine ⟨_, _, hr, rfl, ⟨hIx _ _ hi3 (hput W3 _ hlt3), ?_, ?_⟩, ?_⟩
        · rw [World.putObj_heap_same hlt3, hrec]; rfl
        · exact (World.putObj_heap_other (by omega)).trans (hk3.keeps.same _ _ (Nat.le_refl _) hk2 rfl)
        · rw [hz]
          exact ((KK.put _ (by omega)).trans (hk3.mono (by omega))).trans (KK.put _ (by omega))
      | normal => exact hp.elim
      | exit id => exact hp.elim
      | goto t => exact hp.elim
      | panic ch => exact hp.elim
      | outgrown => exact hp.elim
    · rintro e W2 ⟨⟨v, rfl⟩, hi, hl, hk⟩
      have hlt := blk_lt hl
      exact ⟨some .ret, _, by have := run_endLoop (P := P) hl (by rw [hrec]; simp); rw [hrec] at this; exact this, hstop _ _ (Nat.le_refl _) (hIx _ _ hi (hput W2 _ hlt)) ((World.putObj_heap_other (by omega)).trans hk)⟩
theorem wp_range1_once {g : Operand} {p d rid ty : Nat} {pos : String} {body : Code} {Q : Exit → Act → World → Prop} {tmps : Array Value} {w : World}
    (hro : F.round = none) (h1 : 1 ≤ n) {gf : Nat} {lb : Array Value} (hg : ({ tmps := tmps, defers := [] } : Act).eval g = .func (.func gf) #[] lb) (hFg : F.fn gf) (eg : ∀ args w, (callFunc gf args).run P w = .ok (.enter gf args) w)
    (v : Value) {Start : World → Prop} (hseq : IterOnce F (n - 1) P gf lb #[v] Start) (hStart : ∀ A B, Start A → Below w.heap.size A B → Start B) (hs0 : Start w) (hp : p < tmps.size)
    (I Ix : World → Prop) (hI : ∀ A B, I A → Below w.heap.size A B → I B) (hIx : ∀ A B, Ix A → Below w.heap.size A B → Ix B) (h0 : I w)
    (hbody : ∀ (l : Nat) (W : World), I W → body.wpIn (F.inRound l) (n - 1 - 1) P (oncePost w.heap.size Ix W) { tmps := (tmps.setIfInBounds p v).setIfInBounds d v, defers := [] } W)
    (hstop : ∀ (D : Nat) (W : World), w.heap.size ≤ D → Ix W → W.heap[D]? = some (.deferred (some [])) → Code.ret.wpIn F n P Q { tmps := tmps, defers := [{ target := .collected D, args := #[] }] } W) :
    (Code.rangeFunc g #[p] (Code.region rid #[{ dst := some d, op := Op.assign (Operand.tmp p), type := ty, pos := pos, after := #[], guard := none }] false) body).wpIn F n P Q { tmps := tmps, defers := [] } w :=
  wp_range_once hro h1 hg hFg eg hseq hStart hs0 rfl I Ix hI hIx h0 { tmps := (tmps.setIfInBounds p v).setIfInBounds d v, defers := [] } (fun l W K hK => assign_one l rid d p ty pos v tmps W K hp hK) hbody hstop
theorem wpIn_rangeFunc_seq2 {g : Operand} {ps : Array Tmp} {assign body : Code} {Q : Exit → Act → World → Prop} {a : Act} {w : World}
    (hro : F.round = none) (h1 : 1 ≤ n) {gf : Nat} {lb : Array Value} (hg : a.eval g = .func (.func gf) #[] lb) (hFg : F.fn gf) (eg : ∀ args w, (callFunc gf args).run P w = .ok (.enter gf args) w)
    {vals : Nat → Array Value} {N : Nat} {Start : World → Prop} {Tch Kp : World → World → Prop} (hseq : IterSeq F (n - 1) P gf lb vals N Start Tch Kp)
    (hStart : OwnW w.heap.size Start) (hs0 : Start w) (hT : ∀ A B, Tch A B → KeepsFrom w.heap.size A B)
    (hKt : ∀ {A B C : World}, Kp A B → Kp B C → Kp A C) (hKb : ∀ (W : World) (l : Nat) (o o' : Obj), w.heap.size ≤ l → W.heap[l]? = some o → o.isCells = false → Kp W (W.putObj l o')) (hps : ∀ k, (vals k).size = ps.size)
    (I : Nat → World → Prop) (Ix : Code → Nat → World → Prop) (hI : ∀ k, OwnW w.heap.size (I k)) (hIx : ∀ c k, OwnW w.heap.size (Ix c k))
    (hIT : ∀ k A B, I k A → Tch A B → I k B) (hIxT : ∀ c k A B, Ix c k A → Tch A B → Ix c k B) (h0 : I 0 w) (Ax : Nat → Act → World → Prop) (hAx : ∀ k a', OwnW w.heap.size (Ax k a'))
    (hassign : ∀ (l k : Nat) (W : World) (K : Act → World → Prop), I k W → k < N → (∀ a' W', KeepsFrom w.heap.size W W' → Kp W W' → I k W' → Ax k a' W' → K a' W') →
      assign.wpIn (F.inRound l) (n - 1 - 1) P (Exit.then K (fun _ _ _ => False)) { tmps := (ps.zip (vals k)).foldl (fun t (p, v) => t.setIfInBounds p v) a.tmps, defers := [] } W)
    (hbody : ∀ (l k : Nat) (a' : Act) (W : World), I k W → Ax k a' W → k < N → body.wpIn (F.inRound l) (n - 1 - 1) P (seqPost w.heap.size Kp I Ix (k + 1) W) a' W)
    (hdone : ∀ (D : Nat) (W : World), w.heap.size ≤ D → I N W → W.heap[D]? = some (.deferred (some [])) → Q .normal { a with defers := { target := .collected D, args := #[] } :: a.defers } W)
    (hstop : ∀ (D : Nat) (c : Code) (k : Nat) (W : World), w.heap.size ≤ D → k ≤ N → Ix c k W → W.heap[D]? = some (.deferred (some [])) → c.wpIn F n P Q { a with defers := { target := .collected D, args := #[] } :: a.defers } W) :
    (Code.rangeFunc g ps assign body).wpIn F n P Q a w := by
  refine wpIn_rangeFunc ?_
  intro fn hfn
  rw [hro]
  obtain ⟨rec, hrec⟩ : ∃ rec : LoopState → Option Code → Loop, rec = fun st pe => { state := st, pending := pe, fn, tmps := a.tmps, params := ps, assign, body, defers := w.heap.size } := ⟨_, rfl⟩
  obtain ⟨W1, hW1⟩ : ∃ W1, (w.alloc (.deferred (some []))).alloc (.loop (rec .ready none)) = W1 := ⟨_, rfl⟩
  have hL1 : W1.heap[w.heap.size + 1]? = some (.loop (rec .ready none)) := by
    rw [← hW1]; have := World.alloc_heap_new (w.alloc (.deferred (some []))) (.loop (rec .ready none)); rwa [World.size_alloc] at this
  have hK1 : W1.heap[w.heap.size]? = some (.deferred (some [])) := by
    rw [← hW1]; exact (Below.heap_alloc _ _ _ (by simp)).trans (World.alloc_heap_new w _)
  have hI1 : I 0 W1 := by rw [← hW1]; exact (hI 0).alloc _ ((hI 0).alloc _ h0)
  have hS1 : Start W1 := by rw [← hW1]; exact hStart.alloc _ (hStart.alloc _ hs0)
  refine ⟨w.heap.size + 1, [{ target := .collected w.heap.size, args := #[] }], W1, { target := .fn (.func gf) lb, args := #[.func (.yield (w.heap.size + 1)) #[] #[]] }, W1, gf,
    #[.func (.yield (w.heap.size + 1)) #[] #[]] ++ lb, W1, ?_, ?_, ?_, ?_, fun _ => h1, ?_⟩
  · rw [← hW1, hrec]; exact run_enterLoop_outer _ _ _ _ _
  · simp only [resolve, hg]
    simp [go_sem]
  · intro f' hf'; simp [Target.leads] at hf'; subst hf'; exact hFg
  · simp [invoke, go_sem, eg]
  · refine (hseq (w.heap.size + 1)
      (fun k W => I k W ∧ W.heap[w.heap.size + 1]? = some (.loop (rec .ready none)) ∧ W.heap[w.heap.size]? = some (.deferred (some [])))
      (fun k W => ∃ c, Ix c k W ∧ W.heap[w.heap.size + 1]? = some (.loop (rec .done (some c))) ∧ W.heap[w.heap.size]? = some (.deferred (some [])))
      W1 hS1
      (fun k A B hs ht => ⟨hIT k A B hs.1 ht, (hT A B ht).same _ _ (by omega) hs.2.1 rfl, (hT A B ht).same _ _ (Nat.le_refl _) hs.2.2 rfl⟩)
      (fun k A B hs ht => by
        obtain ⟨c, hc, hl, hk⟩ := hs
        exact ⟨c, hIxT c k A B hc ht, (hT A B ht).same _ _ (by omega) hl rfl, (hT A B ht).same _ _ (Nat.le_refl _) hk rfl⟩)
      ?_ ⟨hI1, hL1, hK1⟩).mono ?_
    · rintro k W ⟨hi, hl, hk⟩ hlen
      have hlt : w.heap.size + 1 < W.heap.size := (Array.getElem?_eq_some_iff.1 hl).1
      have hy := run_yield (P := P) (args := vals k) hl (by rw [hrec]; exact hps k)
      rw [hrec] at hy
      refine ⟨fn, _, assign, body, hy, roundIn_of_wpIn hfn (hassign _ k W _ hi hlen fun a' W' hkw hkpw hi' hax => ?_)⟩
      have hl' := hkw.same _ _ (by omega) hl rfl
      have hk' := hkw.same _ _ (Nat.le_refl _) hk rfl
      have hlt' := blk_lt hl'
      refine ⟨_, run_beginRound hl' (by rw [hrec]), ?_⟩
      have hl2 : (W'.putObj (w.heap.size + 1) (.loop { rec .ready none with state := .busy })).heap[w.heap.size + 1]? = some (.loop { rec .ready none with state := .busy }) := World.putObj_heap_same hlt'
      have hk2 : (W'.putObj (w.heap.size + 1) (.loop { rec .ready none with state := .busy })).heap[w.heap.size]? = some (.deferred (some [])) := (World.putObj_heap_other (by omega)).trans hk'
      have hw2 : Kp W (W'.putObj (w.heap.size + 1) (.loop { rec .ready none with state := .busy })) := hKt hkpw (hKb _ _ _ _ (by omega) hl' rfl)
      refine wpIn_mono (hbody _ k _ _ ((hI k).putObj _ hi' (by omega) hl' rfl) ((hAx k a').putObj _ hax (by omega) hl' rfl) hlen) ?_
      have fin : ∀ (jump : Option Code) (W3 : World), KeepsFrom w.heap.size (W'.putObj (w.heap.size + 1) (.loop { rec .ready none with state := .busy })) W3 →
          (Instr.endRound (w.heap.size + 1) jump).run P W3 = .ok (.bool jump.isNone) (W3.putObj (w.heap.size + 1) (.loop (rec (if jump.isNone then .ready else .done) jump))) ∧
          W3.heap[w.heap.size + 1]? = some (.loop { rec .ready none with state := .busy }) ∧
          (W3.putObj (w.heap.size + 1) (.loop (rec (if jump.isNone then .ready else .done) jump))).heap[w.heap.size + 1]? = some (.loop (rec (if jump.isNone then .ready else .done) jump)) ∧
          (W3.putObj (w.heap.size + 1) (.loop (rec (if jump.isNone then .ready else .done) jump))).heap[w.heap.size]? = some (.deferred (some [])) := fun jump W3 hk3 => by
        have hl3 := hk3.same _ _ (by omega) hl2 rfl
        have := run_endRound (P := P) jump hl3
        rw [hrec] at this ⊢
        exact ⟨this, by rw [hrec] at hl3; exact hl3, World.putObj_heap_same (Array.getElem?_eq_some_iff.1 hl3).1, (World.putObj_heap_other (by omega)).trans (hk3.same _ _ (Nat.le_refl _) hk2 rfl)⟩
      rintro e a3 W3 hp
      cases e with
      | normal =>
        obtain ⟨hk3, hkp3, hi3⟩ := hp
        obtain ⟨hr, hl3, hl4, hk4⟩ := fin none W3 hk3
        exact ⟨_, _, hr, .inl ⟨rfl, ⟨(hI _).putObj _ hi3 (by omega) hl3 rfl, hl4, hk4⟩, hKt (hKt hw2 hkp3) (hKb _ _ _ _ (by omega) hl3 rfl)⟩⟩
      | ret =>
        obtain ⟨hk3, hi3⟩ := hp
        obtain ⟨hr, hl3, hl4, hk4⟩ := fin (some .ret) W3 hk3
        exact ⟨_, _, hr, .inr ⟨rfl, .ret, (hIx _ _).putObj _ hi3 (by omega) hl3 rfl, hl4, hk4⟩⟩
      | exit id =>
        obtain ⟨hk3, hi3⟩ := hp
        obtain ⟨hr, hl3, hl4, hk4⟩ := fin (some (.exit id)) W3 hk3
        exact ⟨_, _, hr, .inr ⟨rfl, .exit id, (hIx _ _).putObj _ hi3 (by omega) hl3 rfl, hl4, hk4⟩⟩
      | goto t =>
        obtain ⟨hk3, hi3⟩ := hp
        obtain ⟨hr, hl3, hl4, hk4⟩ := fin (some (.goto t)) W3 hk3
        exact ⟨_, _, hr, .inr ⟨rfl, .goto t, (hIx _ _).putObj _ hi3 (by omega) hl3 rfl, hl4, hk4⟩⟩
      | panic ch => exact hp.elim
      | outgrown => exact hp.elim
    · rintro e W2 ⟨⟨v, rfl⟩, (⟨hi, hl, hk⟩ | ⟨k, hkN, c, hi, hl, hk⟩)⟩
      · exact ⟨none, _, by have := run_endLoop (P := P) hl (by rw [hrec]; simp); rw [hrec] at this; exact this, hdone _ _ (Nat.le_refl _) ((hI _).putObj _ hi (by omega) hl rfl) ((World.putObj_heap_other (by omega)).trans hk)⟩
      · exact ⟨some c, _, by have := run_endLoop (P := P) hl (by rw [hrec]; simp); rw [hrec] at this; exact this, hstop _ c k _ (Nat.le_refl _) hkN ((hIx c k).putObj _ hi (by omega) hl rfl) ((World.putObj_heap_other (by omega)).trans hk)⟩
end Go.Proofs.Ytcfinlmocgbnbaa.XB
end
section
set_option linter.unusedVariables false
namespace Go.Proofs.Ytcfinlmocgbnbaa.XB
open Go.RowKit
section
variable {P : Program} {ops : Array Oper} {md : Region.Mode} {C : World → Prop} {n : Nat}
theorem Oper.wide_of_quiet {o : Oper} {a : Act} {K : Act → Prop} {K' : Act → World → Prop} {Q : Exit → Act → World → Prop} {w : World} (hd : ∀ c, o.op ≠ .defer c) (hw : C w) (h : ∀ a w', C w' → K a → K' a w') (hh : o.quiet P a C K) :
    o.wpIn Fence.wide n P a w K' Q := by
  obtain ⟨v, h1, h2⟩ := hh
  have h3 := h1 w hw
  refine ⟨fun _ _ => trivial, ?_⟩
  show o.uponIn Fence.wide n P a K' Q ((o.semAt none a.eval).run P w)
  rw [show o.semAt none a.eval = execOp a.eval o from rfl]
  unfold Oper.quietAt at h3
  generalize (execOp a.eval o).run P w = r at *
  cases r with
  | ok m w' =>
    cases m <;> simp only [Oper.quietUpon] at h3
    case value u =>
      obtain ⟨e1, e2⟩ := h3
      rw [e1, e2]
      exact h _ _ hw h2
    case skip =>
      obtain ⟨e1, e2⟩ := h3
      subst e2
      rw [e1]
      exact h _ _ hw h2
    case enter f args =>
      obtain ⟨e1, hc⟩ := h3
      rw [e1]
      refine ⟨fun hx => (by cases hx), (callsIn_wide.2 (hc.mono fun e w'' ⟨he, hw''⟩ => ?_))⟩
      subst he
      exact h _ _ hw'' h2
  | halt x w' => simp only [Oper.quietUpon] at h3
theorem wide_of_qOp {i : Nat} {a : Act} {K : Act → Prop} {K' : Act → World → Prop} {Q : Exit → Act → World → Prop} {w : World} (hn : noDefer ops = true) (hC : C w) (h : ∀ a w', C w' → K a → K' a w') (hh : qOp P ops C i K a) :
    wpOpIn Fence.wide n P ops Q i K' a w := by
  unfold qOp at hh
  unfold wpOpIn
  split
  · rename_i ho; simp only [ho] at hh; exact h _ _ hC hh
  · rename_i o ho
    simp only [ho] at hh
    split
    · rename_i hw; simp only [hw, if_true] at hh; exact Oper.wide_of_quiet (noDefer_spec hn ho) hC h hh
    · rename_i hw; simp only [hw] at hh; exact ⟨fun _ _ => trivial, h _ _ hC hh⟩
theorem HeadQ.wide {m g : Nat} {L : Array Bool → Act → Prop} {Q : Exit → Act → World → Prop} (hn : noDefer ops = true) (hL : ∀ up a w, C w → L up a → wpAnyIn Fence.wide n P md ops Q g up a w) :
    ∀ (f : Nat) (up : Array Bool) (a : Act) (w : World), C w → HeadQ P md ops C m L f up a → wpAnyIn Fence.wide n P md ops Q (f + g) up a w
  | 0, up, a, w, hC, h => by rw [Nat.zero_add]; exact hL _ _ _ hC h
  | f + 1, up, a, w, hC, h => by
    rw [show f + 1 + g = (f + g) + 1 by omega]
    exact ⟨fun h0 => absurd h0 h.1, fun i hi => wide_of_qOp hn hC (fun a' w' hC' h' => HeadQ.wide hn hL f _ a' w' hC' h') (h.2 i hi).2⟩
theorem wide_tail {id : Nat} {Q : Exit → Act → World → Prop} {a : Act} {w : World} {ol : List Oper} (C : World → Prop) (m : Nat) (hm : P.follows .mixedOrders = true) (hB : Region.lexTailB .any ol.toArray m = true) (hd : noDefer ol.toArray = true) (hC : C w.drew)
    (h : wpQuiet P ol.toArray C (fun a' => ∀ w', C w' → wpListIn Fence.wide n P ol.toArray Q (ol.drop m) a' w') (ol.take m) a) : (Code.region id ol.toArray true).wpIn Fence.wide n P Q a w := by
  simp only [Region.lexTailB, Bool.and_eq_true, decide_eq_true_eq] at hB
  obtain ⟨⟨⟨⟨hsel, hn⟩, hs⟩, hc⟩, hlex⟩ := hB
  have htl : (ol.take m).length = m := by simp at hn ⊢; omega
  have hdl : (ol.drop m).length = ol.toArray.size - m := by simp
  have inv0 : HeadInv .any ol.toArray m (Array.replicate ol.toArray.size false) :=
    ⟨by simp, fun j oj _ hl => (by rw [getD_replicate_false] at hl; cases hl), fun t _ ht => getD_in (by simpa using ht) (getD_replicate_false _ _)⟩
  have H := HeadQ.lex (md := .any) (g := ol.toArray.size - m) hsel hs hc hn (ol.take m) 0 _ a (fun j hj => by
    have hj' : j < m := by rw [htl] at hj; exact hj
    simp [hj']) (by simpa using htl) inv0 (by rw [htl]; exact hlex) h
  refine wpIn_region_any hm ?_
  have := HeadQ.wide (n := n) (C := C) (Q := Q) (g := ol.toArray.size - m) hd (fun up a' w' hC' hL => by
    have := any_of_seq (md := .any) (Q := Q) (n := n) (F := Fence.wide) (ol.drop m) m up a' w' (fun j => by simp [List.getElem?_drop]) (by rw [hdl]; exact hL.1) (hL.2 w' hC')
    rwa [hdl] at this) _ _ _ w.drew hC H
  rw [htl, show m + (ol.toArray.size - m) = ol.toArray.size by omega] at this
  exact this
theorem wide_of_quiet {Qa : Act → Prop} {Q : Exit → Act → World → Prop} (hn : noDefer ops = true) (hQ : ∀ a w, C w → Qa a → Q .normal a w) : ∀ (fuel : Nat) (up : Array Bool) (a : Act) (w : World), C w →
    wpAnyQ P md ops C Qa fuel up a → wpAnyIn Fence.wide n P md ops Q fuel up a w
  | 0, _, _, _, hw, h => ⟨h.1, hQ _ _ hw h.2⟩
  | fuel + 1, _, _, _, hw, h => ⟨fun h0 => hQ _ _ hw (h.1 h0), fun i hi => wide_of_qOp hn hw (fun a' w' hw' => wide_of_quiet hn hQ fuel _ a' w' hw') (h.2 i hi)⟩
theorem wide_all {id : Nat} {Q : Exit → Act → World → Prop} {a : Act} {w : World} {ol : List Oper} (C : World → Prop) (hm : P.follows .mixedOrders = true) (hB : Region.lexB .any ol.toArray = true) (hd : noDefer ol.toArray = true) (hC : C w.drew)
    (h : wpQuiet P ol.toArray C (fun a' => ∀ w', C w' → Q .normal a' w') ol a) : (Code.region id ol.toArray true).wpIn Fence.wide n P Q a w := by
  simp only [Region.lexB, Bool.and_eq_true] at hB
  refine wpIn_region_any hm (wide_of_quiet (Qa := fun a' => ∀ w', C w' → Q .normal a' w') hd (fun _ w' hw' h => h w' hw') _ _ _ _ hC ?_)
  have := wpAnyQ_lex (C := C) (md := .any) hB.1 ol.toArray.toList 0 (Array.replicate ol.toArray.size false) a (by simp) (by simpa using hB.2) (by simpa using h)
  simpa using this
end
end Go.Proofs.Ytcfinlmocgbnbaa.XB
end
section
namespace Go.Proofs.Ytcfinlmocgbnbaa.Pr
open Go.RowKit Go.Shelf Go.Proofs.Ytcfinlmocgbnbaa.XB Go.Proofs.YtcfinlmocgbnbaaW.PrintWords Go.Proofs.YtcfinlmocgbnbaaW.PrintLast Go.Proofs.YtcfinlmocgbnbaaW.PrintMore
attribute [local go_sem] Oper.semAt_some
set_option linter.unusedVariables false
set_option linter.unusedSimpArgs false
theorem round_in {F : Fence} {m : Nat} (l' m' : Nat) (hd : F.depth = none) {P : Program} {l : Nat} {f : FuncId} {tmps : Array Value} {assign body : Code} {w : World} {R : Ending → World → Prop}
    (h : RoundIn F m P l f tmps assign body w R) : RoundIn (F.inRound l') m' P l f tmps assign body w R := ⟨h.1, fun c cs _ => h.2 c cs (room_none hd _)⟩
theorem zip_two (p q : Tmp) (x y : Value) (t : Array Value) : ((#[p, q] : Array Tmp).zip #[x, y]).foldl (fun t (p, v) => t.setIfInBounds p v) t = (t.setIfInBounds p x).setIfInBounds q y := by simp
def mvV (m : S24) : Value := .agg #[.bool m.f0, .int .i64 m.f1, .string m.f2]
set_option maxRecDepth 100000 in
set_option maxHeartbeats 4000000 in
theorem back_seq (m : Nat) (hm : 1 ≤ m) (w0 : World) (b1 : Nat) (A : Option Addr) (c : Nat) (so : List S24)
    (h1 : w0.heap[b1]? = some (.cells #[.slice A so.length c] 28 (0, 0))) (hr : Kd.C k24 w0 A so.length so) (hc : so.length ≤ c) (hso : so.length ≤ 1000000) :
    IterSeq Fence.wide m Try.prog 90 #[.pointer (some ⟨b1, 0, none⟩)] (fun k => #[.int .i64 ((so.length : Int) - 1 - k), mvV (rd_T24 so ((so.length : Int) - 1 - k))]) so.length (fun W => Below w0.heap.size w0 W) (fun A B => A = B) (fun A B => Below w0.heap.size A B) := by
  intro l J Jx W hS hJT hJxT hY h0
  have hcell : ∀ W', Below w0.heap.size w0 W' → W'.cell? ⟨b1, 0, none⟩ = some (.slice A so.length c) := fun W' hb => (blk_cell (blk_same h1 hb) 0).trans rfl
  have c1 := hcell W hS
  refine callsIn_of_wp Try.func90 rfl trivial ?_ rfl
  simp only [Try.ntmps90, List.size_toArray, List.length_cons, List.length_nil, Nat.reduceAdd, Nat.reduceSub, Array.replicate_succ, Array.replicate_zero, List.push_toArray, List.append_toArray, List.nil_append, List.cons_append]
  gi_wp2
  gi_loopw [3] (fun v wr => ∃ k : Nat, k ≤ so.length ∧ v = .int .i64 ((so.length : Int) - 1 - k) ∧ J k wr ∧ Below w0.heap.size w0 wr)
    (fun v _ => (intOf v + 1).toNat)
  case atStart => exact ⟨0, by omega, by simp, h0, hS⟩
  case round =>
    obtain ⟨k, hk, rfl, hJs, hB⟩ := hrel
    clear c1
    have c1 := hcell wr hB
    by_cases hlt : k < so.length
    · obtain ⟨i, hi⟩ : ∃ i : Nat, (so.length : Int) - 1 - k = i := ⟨so.length - 1 - k, by omega⟩
      obtain ⟨ad, rfl, r0, r1, r2⟩ := at_T24 hr (i : Int) (by omega) (by omega)
      have q0 := (hB.cell (World.block_lt_of_cell? w0 _ r0)).trans r0
      have q1 := (hB.cell (World.block_lt_of_cell? w0 _ r1)).trans r1
      have q2 := (hB.cell (World.block_lt_of_cell? w0 _ r2)).trans r2
      simp only [Int.toNat_natCast] at q0 q1 q2
      obtain ⟨fn, tmps, assign, body, hy, hR⟩ := hY k wr hJs hlt
      have HI := Lib.hid hi
      rw [hi] at hy ⊢
      unfold mvV at hy
      have hi0 : (0 : Int) ≤ i := by omega
      have hi1 : (i : Int) < so.length := by omega
      clear r0 r1 r2 hi
      gi_wp2
      refine hR.mono ?_
      rintro e W3 (⟨rfl, hJ3, hk3⟩ | ⟨rfl, hJx3⟩)
      · have hw : wrap64 ((i : Int) - 1) = (so.length : Int) - 1 - ((k + 1 : Nat) : Int) := by have := HI.out; unfold wrap64; omega
        have hme : (so.length : Int) - 1 - ((k + 1 : Nat) : Int) + 1 < (i : Int) + 1 := by have := HI.out; omega
        have HW := Lib.hid hw
        have HME := Lib.hid hme
        clear hw hme q0 q1 q2 c1
        gi_wp2
        go_roundw
        case rel => exact ⟨k + 1, by omega, congrArg (Value.int .i64) (by first | exact HW.out | (have := HI.out; omega)), hJ3, hB.trans hk3⟩
        case measure => simp [intOf]
      · gi_wp2
        refine bodyPost_ret (results_none rfl _ _ _) rfl ?_
        exact ⟨⟨_, rfl⟩, .inr ⟨k + 1, by omega, hJx3⟩⟩
    · obtain rfl : k = so.length := by omega
      have hneg : ¬ (0 : Int) ≤ (so.length : Int) - 1 - (so.length : Int) := by omega
      gi_wp2
      go_end0
      exact ⟨⟨_, rfl⟩, .inl hJs⟩
theorem backF_calls (A : Option Addr) (n c : Nat) (w : World) : Calls Try.prog 75 #[.slice A n c] w fun e w' => e = .returned (.func (.func 90) #[] #[.pointer (some ⟨w.heap.size, 0, none⟩)]) ∧ w' = w.alloc (.cells #[.slice A n c] 28) := by
  go_enter Try.func75, Try.ntmps75
  go_wp2
  go_ret
  exact ⟨rfl, rfl⟩
theorem last_none {su : List ByteArray} {so : List S24} {b : Int} (h : ∀ j, (hj : j < so.length) → so[j].f1 ≠ b) : lastB su so b = rdOf ByteArray.empty su b := by
  unfold lastB
  rw [List.find?_eq_none.2]
  intro x hx
  obtain ⟨j, hj, rfl⟩ := List.getElem_of_mem (List.mem_reverse.1 hx)
  simpa using h j hj
theorem last_some {su : List ByteArray} {so : List S24} {b : Int} {i : Nat} (hi : i < so.length) (hb : so[i].f1 = b) (h : ∀ j, (hj : j < so.length) → i < j → so[j].f1 ≠ b) : lastB su so b = so[i].f2 := by
  unfold lastB
  have : so.reverse.find? (fun m => decide (m.f1 = b)) = some so[i] := by
    rw [List.find?_eq_some_iff_getElem]
    refine ⟨by simpa using hb, so.length - 1 - i, by simp; omega, ?_, ?_⟩
    · rw [List.getElem_reverse]
      congr 1
      omega
    · intro j hj
      rw [List.getElem_reverse]
      simpa using h _ (by omega) (by omega)
  rw [this]
set_option maxRecDepth 100000 in
set_option maxHeartbeats 4000000 in
theorem latest_once (m : Nat) (hm : 5 ≤ m) (w0 : World) (b1 b2 : Nat) (A0 : Option Addr) (c0 : Nat) (su : List ByteArray) (A1 : Option Addr) (c1 : Nat) (so : List S24) (b : Int)
    (h1 : w0.heap[b1]? = some (.cells #[.slice A0 su.length c0, .slice A1 so.length c1] 30 (0, 0))) (h2 : w0.heap[b2]? = some (.cells #[.int .i64 b] 3 (0, 0)))
    (hr0 : Kd.C Kd.string w0 A0 su.length su) (hr1 : Kd.C k24 w0 A1 so.length so) (hc1 : so.length ≤ c1) (hso : so.length ≤ 1000000) (hb0 : 0 ≤ b) (hb1 : b < su.length) :
    IterOnce Fence.wide m Try.prog 74 #[.pointer (some ⟨b1, 0, none⟩), .pointer (some ⟨b2, 0, none⟩)] #[.string (lastB su so b)] (fun W => Below w0.heap.size w0 W) := by
  intro l J Jx W hS hJ hJx hY h0
  refine callsIn_of_wp_marks Try.func74 rfl trivial ?_ rfl
  simp only [Try.ntmps74, List.size_toArray, List.length_cons, List.length_nil, Nat.reduceAdd, Nat.reduceSub, Array.replicate_succ, Array.replicate_zero, List.push_toArray, List.append_toArray, List.nil_append, List.cons_append]
  have d1 : ∀ X, Below w0.heap.size w0 X → X.cell? ⟨b1, 0, none⟩ = some (.slice A0 su.length c0) ∧ X.cell? ⟨b1, 1, none⟩ = some (.slice A1 so.length c1) ∧ X.cell? ⟨b2, 0, none⟩ = some (.int .i64 b) := fun X hX => ⟨(blk_cell (blk_same h1 hX) 0).trans rfl, (blk_cell (blk_same h1 hX) 1).trans rfl, (blk_cell (blk_same h2 hX) 0).trans rfl⟩
  have hSA : ∀ o, Below w0.heap.size w0 (W.alloc o) := fun o => below_alloc hS o
  have k1 := fun o => (d1 _ (hSA o)).2.1
  gi_wp2_with fail
  refine ⟨trivial, (fun _ => by omega), (callsIn_wide.2 (backF_calls A1 so.length c1 _)).mono ?_⟩
  rintro e U ⟨rfl, hU⟩
  have BY : U.heap[W.heap.size]? = some (.cells #[.func (.yield l) #[] #[]] 79 (0, 0)) := by rw [hU]; exact heap_alloc2_old W _ _
  have B28 : U.heap[W.heap.size + 1]? = some (.cells #[.slice A1 so.length c1] 28 (0, 0)) := by rw [hU]; exact heap_alloc2_new W _ _
  have HU : Below W.heap.size W U := by rw [hU]; exact below_alloc (below_alloc (Below.refl W.heap.size W) _) _
  have HBU : Below w0.heap.size w0 U := hS.trans (HU.mono hS.size)
  have hz : W.heap.size + 1 < U.heap.size := blk_lt B28
  have hJU := hJ _ _ h0 HU
  rw [show (W.alloc (.cells #[.func (.yield l) #[] #[]] 79)).heap.size = W.heap.size + 1 from World.size_alloc _ _]
  have HHU := Lib.hid hU
  clear hU k1
  gi_wp2_with fail
  clear HHU
  have hgrow : ∀ (A B : World) (row : Option Nat), A.grownBy B row → (∀ r, row = some r → U.heap.size ≤ r) → U.heap.size ≤ A.heap.size → Below U.heap.size A B := fun A B row hg hr hs => Below.grown (Below.refl _ A) hg hs (fun k e => hr k e)
  refine wpIn_rangeFunc_seq2 (n := m) (F := Fence.wide) rfl (by omega) (gf := 90) (lb := #[.pointer (some ⟨W.heap.size + 1, 0, none⟩)]) rfl trivial (enters_of Try.func90 (by kernel_rfl) rfl)
    (back_seq (m - 1) (by omega) U (W.heap.size + 1) A1 c1 so B28 (Kd.C_below hr1 HBU) hc1 hso) (.below (Nat.le_refl _) (Nat.le_refl _)) (Below.refl _ _) (fun A B e => by rw [e]; exact KeepsFrom.refl _ _)
    (fun {A B C} h k => h.trans k) (fun X_ l_ o o' hl ho _ => Below.grown (Below.refl _ X_) (grownBy_putObj' X_ l_ o') (Nat.le_of_lt (Nat.lt_of_le_of_lt hl (blk_lt ho))) (fun k e => by cases e; exact hl)) (fun _ => rfl)
    (fun k X => U.heap.size ≤ X.heap.size ∧ J X ∧ Below U.heap.size U X ∧ ∀ j, (hj : j < so.length) → so.length ≤ j + k → so[j].f1 ≠ b)
    (fun c k X => U.heap.size ≤ X.heap.size ∧ c = .ret ∧ Jx X)
    (fun k A B row h hg hr => ⟨Nat.le_trans h.1 hg.size, hJ _ _ h.2.1 ((hgrow _ _ _ hg (fun r e => (hr r e).1) h.1).mono (by omega)), h.2.2.1.trans (hgrow _ _ _ hg (fun r e => (hr r e).1) h.1), h.2.2.2⟩)
    (fun c k A B row h hg hr => ⟨Nat.le_trans h.1 hg.size, h.2.1, hJx _ _ h.2.2 ((hgrow _ _ _ hg (fun r e => (hr r e).1) h.1).mono (by omega))⟩)
    (fun k A B h e => by rw [← e]; exact h) (fun c k A B h e => by rw [← e]; exact h)
    ⟨Nat.le_refl _, hJU, Below.refl _ _, fun j hj hk => absurd hk (by omega)⟩
    (fun k a' X => ∃ g5 : Nat, a' = ⟨#[.func (.yield l) #[] #[], .pointer (some ⟨b1, 0, none⟩), .pointer (some ⟨b2, 0, none⟩), .pointer (some ⟨W.heap.size, 0, none⟩), undef, .pointer (some ⟨g5, 0, none⟩), .pointer (some ⟨b1, 1, none⟩), .slice A1 so.length c1, .func (.func 90) #[] #[.pointer (some ⟨W.heap.size + 1, 0, none⟩)], .int .i64 ((so.length : Int) - 1 - k), mvV (rd_T24 so ((so.length : Int) - 1 - k)), undef, undef, undef, undef, undef, undef, undef, undef, undef, undef, undef, undef, undef, undef, undef, undef, undef, undef], []⟩ ∧
      X.heap[g5]? = some (.cells #[.bool (rd_T24 so ((so.length : Int) - 1 - k)).f0, .int .i64 (rd_T24 so ((so.length : Int) - 1 - k)).f1, .string (rd_T24 so ((so.length : Int) - 1 - k)).f2] 24 (0, 0)))
    (fun k a' => .ex fun g5 => .and (.pure _) (.blk _ _ _ _)) ?assign ?body ?done ?stop
  case assign =>
    rintro l' k X K ⟨hx0, hj, hbu, hno⟩ hk hK
    rw [zip_two]
    show Code.wpIn (Fence.wide.inRound l') (m - 1 - 1) Try.prog _ _ ⟨#[.func (.yield l) #[] #[], .pointer (some ⟨b1, 0, none⟩), .pointer (some ⟨b2, 0, none⟩), .pointer (some ⟨W.heap.size, 0, none⟩), undef, undef, .pointer (some ⟨b1, 1, none⟩), .slice A1 so.length c1, .func (.func 90) #[] #[.pointer (some ⟨W.heap.size + 1, 0, none⟩)], .int .i64 ((so.length : Int) - 1 - k), mvV (rd_T24 so ((so.length : Int) - 1 - k)), undef, undef, undef, undef, undef, undef, undef, undef, undef, undef, undef, undef, undef, undef, undef, undef, undef, undef], []⟩ X
    have hK' := Lib.hid hK
    clear hK
    unfold mvV
    generalize rd_T24 so ((so.length : Int) - 1 - k) = mv at *
    gi_wp2
    have hba := (Below.refl U.heap.size X).alloc hx0 (.cells #[.bool mv.f0, .int .i64 mv.f1, .string mv.f2] 24)
    exact hK'.out _ _ (keeps_below (below_alloc (Below.refl X.heap.size X) _)) hba ⟨Nat.le_trans hx0 (by simp), hJ _ _ hj (hba.mono (by omega)), hbu.trans hba, hno⟩ ⟨_, rfl, heap_alloc_new _ _⟩
  case body =>
    rintro l' k a' X ⟨hx0, hj, hbu, hno⟩ ⟨g5, rfl, h5⟩ hk
    obtain ⟨i, hi⟩ : ∃ i : Nat, (so.length : Int) - 1 - k = i := ⟨so.length - 1 - k, by omega⟩
    have hil : i < so.length := by omega
    have hik : i + k + 1 = so.length := by omega
    have hnext : so[i].f1 ≠ b → ∀ j, (hj : j < so.length) → so.length ≤ j + (k + 1) → so[j].f1 ≠ b := fun h j hj hjk => by
      by_cases e : j = i
      · subst e; exact h
      · exact hno j hj (by omega)
    have hlast : so[i].f1 = b → lastB su so b = so[i].f2 := fun h => last_some hil h (fun j hj hij => hno j hj (by omega))
    rw [hi] at h5 ⊢
    rw [rd24_get hil] at h5 ⊢
    generalize so[i] = mv at *
    have e3 : X.cell? ⟨W.heap.size, 0, none⟩ = some (.func (.yield l) #[] #[]) := (blk_cell (blk_same BY hbu) 0).trans rfl
    have e1 : X.cell? ⟨g5, 1, none⟩ = some (.int .i64 mv.f1) := (blk_cell h5 1).trans rfl
    have e2 : X.cell? ⟨g5, 2, none⟩ = some (.string mv.f2) := (blk_cell h5 2).trans rfl
    have e4 := (d1 X (HBU.trans (hbu.mono HBU.size))).2.2
    by_cases hb : mv.f1 = b
    · obtain ⟨fn, tmps, assign, body, hy, hR⟩ := hY X hj
      rw [hlast hb] at hy
      have hbb : (mv.f1 == b) = true := by simpa using hb
      have HKK := Lib.hid (show ∀ X', KK W.heap.size X X' → KeepsFrom U.heap.size X X' from fun X' h => (h.mono (by omega)).keeps)
      have HX0 := Lib.hid hx0
      clear hlast hnext hno hb hbu h5 hi hik hY hj
      gi_wp2
      refine ⟨fun _ => by omega, (round_in l' (m - 1 - 1 - 1) rfl hR).mono ?_⟩
      rintro e X' ⟨rfl, hjx, hkk⟩
      have HJX := Lib.hid hjx
      have HK2 := Lib.hid hkk
      clear hjx hkk e1 e2 e3 e4 hy hR
      gi_wp2
      exact ⟨HKK.out _ HK2.out, Nat.le_trans HX0.out HK2.out.1, rfl, HJX.out⟩
    · have hbb : (mv.f1 == b) = false := by simpa using hb
      have HN := Lib.hid (hnext hb)
      have HJ := Lib.hid hj
      have HBU2 := Lib.hid hbu
      clear hlast hnext hno hb hi hik hY hj hbu
      have HX0 := Lib.hid hx0
      gi_wp2_with fail
      refine ⟨(fun _ _ => trivial), ?_⟩
      clear hx0
      gi_wp2
      first | exact ⟨KeepsFrom.refl _ _, Below.refl _ _, HX0.out, HJ.out, HBU2.out, HN.out⟩ | exact ⟨KeepsFrom.refl _ _, Below.refl _ _, HJ.out, HBU2.out, HN.out⟩
  case done =>
    rintro D X hD ⟨hx0, hj, hbu, hno⟩ hdef
    gi_wp2_with fail
    have hlast : lastB su so b = rdOf ByteArray.empty su b := last_none (fun j hj => hno j hj (by omega))
    have hXd : Below w0.heap.size w0 X.drew := HBU.trans ((below_drew1 hbu).mono HBU.size)
    obtain ⟨ad, rfl, r0⟩ := Kd.at_string (Kd.C_below hr0 hXd) b hb0 hb1
    have e3 : X.drew.cell? ⟨W.heap.size, 0, none⟩ = some (.func (.yield l) #[] #[]) := (blk_cell (blk_same BY (below_drew1 hbu)) 0).trans rfl
    obtain ⟨e4, e5, e6⟩ := d1 X.drew hXd
    have hjd : J X.drew := hJ _ _ hj (below_drew1 (Below.refl W.heap.size X))
    have HDE := Lib.hid (show X.drew.heap[D]? = some (.deferred (some [])) from hdef)
    have HX0 := Lib.hid (show U.heap.size ≤ X.drew.heap.size from hx0)
    have HDL := Lib.hid (show D < X.drew.heap.size from blk_lt hdef)
    obtain ⟨fn, tmps, assign, body, hy, hR⟩ := hY X.drew hjd
    rw [hlast] at hy
    have HR := Lib.hid hR
    have HY := Lib.hid hy
    clear hj hbu hno hdef hjd hlast hy hR hx0
    refine XB.wide_tail (fun w' => w' = X.drew) 6 (by kernel_rfl) (by kernel_rfl) (by kernel_rfl) rfl ?_
    simp only [List.take_succ_cons, List.take_zero, List.drop_succ_cons, List.drop_zero]
    generalize X.drew = Y at *
    iterate 6 refine XB.quiet_op _ (by rfl) (by rintro w' rfl; go_simp; with_reducible rfl) ?_
    refine wpQuiet_nil ?_
    rintro Z rfl
    have hy := HY.out
    gi_wp2_with fail
    refine ⟨fun _ => by omega, HR.out.mono ?_⟩
    rintro e X' ⟨rfl, hjx, hkk⟩
    have hz2 := HX0.out
    have hdf : X'.heap[D]? = some (.deferred (some [])) := (hkk.2 D (by omega) HDL.out).trans HDE.out
    have hput := hJx _ _ hjx (Below.grown (Below.refl W.heap.size X') (grownBy_putObj' X' D (.deferred none)) (Nat.le_trans (by omega) hkk.1) (fun k e => by cases e; omega))
    have HP := Lib.hid hput
    have HDF := Lib.hid hdf
    clear hput hdf hjx hkk hy hz2 e3 e4 e5 e6 r0
    gi_wp2_with fail
    exact XB.M_ret (.inr rfl) HDF.out (results_none rfl _ _ _) ⟨⟨_, rfl⟩, HP.out⟩
  case stop =>
    rintro D c k X hD hk ⟨hx0, rfl, hjx⟩ hdef
    have hput := hJx _ _ hjx (Below.grown (Below.refl W.heap.size X) (grownBy_putObj' X D (.deferred none)) (by omega) (fun k e => by cases e; omega))
    have HP := Lib.hid hput
    have HDF := Lib.hid hdef
    clear hput hdef hjx
    gi_wp2_with fail
    exact XB.M_ret (.inl rfl) HDF.out (results_none rfl _ _ _) ⟨⟨_, rfl⟩, HP.out⟩
theorem latest_calls (A0 : Option Addr) (c0 : Nat) (n0 : Nat) (A1 : Option Addr) (c1 n1 : Nat) (b : Int) (w : World) : Calls Try.prog 49 #[.agg #[.slice A0 n0 c0, .slice A1 n1 c1], .int .i64 b] w fun e w' =>
    e = .returned (.func (.func 74) #[] #[.pointer (some ⟨w.heap.size, 0, none⟩), .pointer (some ⟨w.heap.size + 1, 0, none⟩)]) ∧ w' = (w.alloc (.cells #[.slice A0 n0 c0, .slice A1 n1 c1] 30)).alloc (.cells #[.int .i64 b] 3) := by
  go_enter Try.func49, Try.ntmps49
  go_wp2
  go_ret
  exact ⟨rfl, rfl⟩
def disk_Read.f (l0_0 : List ByteArray) (l0_1 : List (S24)) (a1 : Int) : Option (ByteArray × Int) := some (readB l0_0 l0_1 a1)
theorem vals_read {tmps : Array Value} {w : World} {g4 g5 : Nat} {s : ByteArray} {e : Int} (h4 : tmps.getD 4 undef = .pointer (some ⟨g4, 0, none⟩)) (h5 : tmps.getD 5 undef = .pointer (some ⟨g5, 0, none⟩)) (b4 : w.heap[g4]? = some (.cells #[.string s] 9 (0, 0))) (b5 : w.heap[g5]? = some (.cells #[.int .i64 e] 31 (0, 0))) :
    (results Try.f22 tmps).run Try.prog w = .ok (.tuple #[.string s, .int .i64 e]) w :=
  XB.resultsX_list (rs := [.cell 4 9, .cell 5 31]) rfl (by simp) (.one _ _ _ _ _ h4 b4 Try.underlying9 rfl (.one _ _ _ _ _ h5 b5 Try.underlying31 rfl .nil))
set_option maxRecDepth 100000 in
set_option maxHeartbeats 4000000 in
theorem disk_Read.calls (A0_0 : Option Addr) (c0_0 : Nat) (l0_0 : List ByteArray) (A0_1 : Option Addr) (c0_1 : Nat) (l0_1 : List (S24)) (a1 : Int) (r1 : ByteArray) (r2 : Int) (w : World) (hr0_0 : Kd.C Kd.string w A0_0 l0_0.length l0_0) (hc0_0 : l0_0.length ≤ c0_0) (hr0_1 : Kd.C k24 w A0_1 l0_1.length l0_1) (hc0_1 : l0_1.length ≤ c0_1) (h : disk_Read.f l0_0 l0_1 a1 = some (r1, r2)) :
    Calls Try.prog 22 #[.agg #[.slice A0_0 l0_0.length c0_0, .slice A0_1 l0_1.length c0_1], .int .i64 a1] w fun e w' => e = .returned (.tuple #[.string r1, .int .i64 r2]) ∧ Below w.heap.size w w' := by
  have H := Option.some.inj h
  clear h
  have HR0 := Lib.hid hr0_0
  have HR1 := Lib.hid hr0_1
  clear hr0_0 hr0_1
  have HRC := Lib.hid (fun W (hW : Below w.heap.size w W) => disk_Right.calls A0_0 c0_0 l0_0 A0_1 c0_1 l0_1 _ W (Kd.C_below HR0.out hW) hc0_0 (Kd.C_below HR1.out hW) hc0_1 rfl)
  unfold readB at H
  refine (callsIn_wide (n := 9)).1 (callsIn_of_wp_marks Try.func22 rfl trivial ?_ rfl)
  simp only [Try.ntmps22, List.size_toArray, List.length_cons, List.length_nil, Nat.reduceAdd, Nat.reduceSub, Array.replicate_succ, Array.replicate_zero, List.push_toArray, List.append_toArray, List.nil_append, List.cons_append]
  gi_wp2_with fail
  generalize hU : World.alloc (World.alloc (World.alloc w _) _) _ = U
  obtain ⟨b1, b2, b3⟩ : U.heap[w.heap.size]? = some (.cells #[.slice A0_0 l0_0.length c0_0, .slice A0_1 l0_1.length c0_1] 30 (0, 0)) ∧ U.heap[w.heap.size + 1]? = some (.cells #[.string ⟨#[]⟩] 9 (0, 0)) ∧ U.heap[w.heap.size + 2]? = some (.cells #[.int .i64 0] 31 (0, 0)) := by rw [← hU]; exact boxes3 w _ _ _
  have HB : Below w.heap.size w U := by rw [← hU]; exact below_alloc (below_alloc (below_alloc (Below.refl w.heap.size w) _) _) _
  clear hU
  refine ⟨trivial, (callsIn_wide.2 (HRC.out U HB)).mono ?_⟩
  rintro e W1 ⟨rfl, hb⟩
  have b1' := blk_same b1 hb
  have b2' := blk_same b2 hb
  have b3' := blk_same b3 hb
  have B1 := Lib.hid b1'
  have B2 := Lib.hid b2'
  have B3 := Lib.hid b3'
  have HB1 := Lib.hid (HB.trans (hb.mono HB.size))
  have k0 : W1.cell? ⟨w.heap.size, 0, none⟩ = some (.slice A0_0 l0_0.length c0_0) := (blk_cell b1' 0).trans rfl
  have k1 : W1.cell? ⟨w.heap.size, 1, none⟩ = some (.slice A0_1 l0_1.length c0_1) := (blk_cell b1' 1).trans rfl
  have j2 : W1.cell? ⟨w.heap.size + 1, 0, none⟩ = some (.string ⟨#[]⟩) := (blk_cell b2' 0).trans rfl
  have j3 : W1.cell? ⟨w.heap.size + 2, 0, none⟩ = some (.int .i64 0) := (blk_cell b3' 0).trans rfl
  have f2 := blk_frozen b2' 0
  have f3 := blk_frozen b3' 0
  clear b1 b2 b3 b1' b2' b3' hb HB U
  by_cases hok : rightB l0_0 l0_1 = true ∧ 0 ≤ a1 ∧ a1 < l0_0.length
  · rw [if_pos hok] at H
    simp only [Prod.mk.injEq] at H
    obtain ⟨rfl, rfl⟩ := H
    obtain ⟨hr, h0, h1⟩ := hok
    have HS := right_iff.1 hr
    have hso : l0_1.length ≤ 1000000 := by have := HS.few; omega
    rw [hr]
    clear HS hr j2 j3 f2 f3
    gi_wp2_with fail
    refine ⟨trivial, (callsIn_wide.2 (latest_calls A0_0 c0_0 l0_0.length A0_1 c0_1 l0_1.length a1 W1)).mono ?_⟩
    rintro e W2 ⟨rfl, hW2⟩
    have hb2 : Below W1.heap.size W1 W2 := by rw [hW2]; exact below_alloc (below_alloc (Below.refl W1.heap.size W1) _) _
    have L1 : W2.heap[W1.heap.size]? = some (.cells #[.slice A0_0 l0_0.length c0_0, .slice A0_1 l0_1.length c0_1] 30 (0, 0)) := by rw [hW2]; exact heap_alloc2_old W1 _ _
    have L2 : W2.heap[W1.heap.size + 1]? = some (.cells #[.int .i64 a1] 3 (0, 0)) := by rw [hW2]; exact heap_alloc2_new W1 _ _
    have C2 := blk_same B2.out hb2
    have C3 := blk_same B3.out hb2
    have HBW := HB1.out.trans (hb2.mono HB1.out.size)
    have z1 : w.heap.size + 2 < W2.heap.size := blk_lt C3
    have hseq := latest_once 8 (by omega) W2 W1.heap.size (W1.heap.size + 1) A0_0 c0_0 l0_0 A0_1 c0_1 l0_1 a1 L1 L2 (Kd.C_below HR0.out HBW) (Kd.C_below HR1.out HBW) hc0_1 hso h0 h1
    obtain ⟨LB, hLB⟩ : ∃ LB, LB = lastB l0_0 l0_1 a1 := ⟨_, rfl⟩
    rw [← hLB] at hseq
    have HLB := Lib.hid hLB
    clear hLB
    have HSEQ := Lib.hid hseq
    have HC2 := Lib.hid C2
    have HC3 := Lib.hid C3
    have HHB := Lib.hid HBW
    clear hseq C2 C3 HBW hb2 hW2 L1 L2 k0 k1
    generalize W1.heap.size = gl at *
    clear B1 B2 B3 HB1 W1
    gi_wp2_with fail
    refine wp_range1_once (n := 9) (F := Fence.wide) rfl (by omega) (gf := 74) (lb := #[.pointer (some ⟨gl, 0, none⟩), .pointer (some ⟨gl + 1, 0, none⟩)]) rfl trivial (enters_of Try.func74 (by kernel_rfl) rfl) (.string LB) HSEQ.out (fun A B h k => h.trans k) (Below.refl _ _) (by simp)
      (fun X => X.heap[w.heap.size + 1]? = some (.cells #[.string ⟨#[]⟩] 9 (0, 0)) ∧ X.heap[w.heap.size + 2]? = some (.cells #[.int .i64 0] 31 (0, 0)) ∧ Below w.heap.size w X)
      (fun X => X.heap[w.heap.size + 1]? = some (.cells #[.string LB] 9 (0, 0)) ∧ X.heap[w.heap.size + 2]? = some (.cells #[.int .i64 0] 31 (0, 0)) ∧ Below w.heap.size w X)
      (fun A B h k => ⟨(k.block _ (by omega)).trans h.1, (k.block _ (by omega)).trans h.2.1, h.2.2.trans (k.mono (by omega))⟩)
      (fun A B h k => ⟨(k.block _ (by omega)).trans h.1, (k.block _ (by omega)).trans h.2.1, h.2.2.trans (k.mono (by omega))⟩)
      ⟨HC2.out, HC3.out, HHB.out⟩ ?body ?stop
    case body =>
      rintro l X ⟨g1, g2, gB⟩
      have q1 : X.cell? ⟨w.heap.size + 1, 0, none⟩ = some (.string ⟨#[]⟩) := (blk_cell g1 0).trans rfl
      have q2 : X.cell? ⟨w.heap.size + 1 + 1, 0, none⟩ = some (.int .i64 0) := (blk_cell g2 0).trans rfl
      have q3 := blk_frozen g1 0
      have q4 := blk_frozen g2 0
      have G1 := Lib.hid g1
      have G2 := Lib.hid g2
      have GB := Lib.hid gB
      have Z1 := Lib.hid z1
      clear g1 g2 gB z1
      gi_wp2
      have z1 := Z1.out
      exact ⟨(KK.set ⟨w.heap.size + 1, 0, none⟩ _ (by show w.heap.size + 1 < _; omega)).trans (KK.set ⟨w.heap.size + 2, 0, none⟩ _ (by show w.heap.size + 2 < _; omega)), blk_far (blk_set G1.out 0 _) (by show w.heap.size + 1 ≠ w.heap.size + 2; omega) _, blk_set (blk_far G2.out (by show w.heap.size + 2 ≠ w.heap.size + 1; omega) _) 0 _, (GB.out.setCell (by show w.heap.size ≤ w.heap.size + 1; omega) _).setCell (by show w.heap.size ≤ w.heap.size + 2; omega) _⟩
    case stop =>
      rintro D X hD ⟨g1, g2, gB⟩ hdef
      have hne1 : w.heap.size + 1 ≠ D := by omega
      have hne2 : w.heap.size + 2 ≠ D := by omega
      have P1 := Lib.hid (show (X.putObj D (.deferred none)).heap[w.heap.size + 1]? = some (.cells #[.string LB] 9 (0, 0)) from (World.putObj_heap_other hne1).trans g1)
      have P2 := Lib.hid (show (X.putObj D (.deferred none)).heap[w.heap.size + 2]? = some (.cells #[.int .i64 0] 31 (0, 0)) from (World.putObj_heap_other hne2).trans g2)
      have P3 := Lib.hid (show Below w.heap.size w (X.putObj D (.deferred none)) from gB.trans (Below.grown (Below.refl w.heap.size X) (grownBy_putObj' X D _) gB.size (fun k e => by cases e; omega)))
      have HDF := Lib.hid hdef
      clear g1 g2 gB hdef
      gi_wp2
      exact XB.M_ret (.inl rfl) HDF.out (vals_read rfl rfl P1.out P2.out) ⟨by rw [HLB.out], P3.out⟩
  · rw [if_neg hok] at H
    simp only [Prod.mk.injEq] at H
    obtain ⟨rfl, rfl⟩ := H
    have h3 : rightB l0_0 l0_1 = false ∨ (rightB l0_0 l0_1 = true ∧ a1 < 0) ∨ (rightB l0_0 l0_1 = true ∧ ¬ a1 < 0 ∧ (l0_0.length : Int) ≤ a1) := by
      cases hr : rightB l0_0 l0_1
      · exact .inl rfl
      · rw [hr] at hok
        simp only [true_and] at hok
        by_cases ha : a1 < 0
        · exact .inr (.inl ⟨rfl, ha⟩)
        · exact .inr (.inr ⟨rfl, ha, by omega⟩)
    clear hok
    rcases h3 with hr | ⟨hr, ha⟩ | ⟨hr, ha, hb⟩ <;> (
      rw [hr]
      clear hr
      gi_wp2
      exact XB.M_of (bodyPost_ret (vals_read rfl rfl (blk_far (blk_set B2.out 0 _) (by show w.heap.size + 1 ≠ w.heap.size + 2; omega) _) (blk_set (blk_far B3.out (by show w.heap.size + 2 ≠ w.heap.size + 1; omega) _) 0 _)) rfl ⟨rfl, (HB1.out.setCell (by show w.heap.size ≤ w.heap.size + 1; omega) _).setCell (by show w.heap.size ≤ w.heap.size + 2; omega) _⟩))
end Go.Proofs.Ytcfinlmocgbnbaa.Pr
end
section
namespace Go.Proofs.Ytcfinlmocgbnbaa.Pr
open Go.RowKit Go.Shelf Go.Proofs.Ytcfinlmocgbnbaa.XB Go.Proofs.YtcfinlmocgbnbaaW.PrintWords
set_option linter.unusedVariables false
set_option linter.unusedSimpArgs false
def VF (w0 : World) (b1 b2 : Nat) (cs1 cs2 : Array Value) (W : World) : Prop := W.heap[b1]? = some (.cells cs1 89 (0, 0)) ∧ W.heap[b2]? = some (.cells cs2 3 (0, 0)) ∧ Below w0.heap.size w0 W
def VT (A B : World) : Prop := Below A.heap.size A B
def VK (w0 : World) (b1 b2 : Nat) (cs1 cs2 : Array Value) (A B : World) : Prop := VF w0 b1 b2 cs1 cs2 A → VF w0 b1 b2 cs1 cs2 B
theorem VF.below {w0 : World} {b1 b2 : Nat} {cs1 cs2 : Array Value} {A B : World} (h : VF w0 b1 b2 cs1 cs2 A) (hb : Below A.heap.size A B) : VF w0 b1 b2 cs1 cs2 B :=
  ⟨blk_same h.1 hb, blk_same h.2.1 hb, h.2.2.trans (hb.mono h.2.2.size)⟩
theorem VF.own {w0 : World} {b1 b2 : Nat} {cs1 cs2 : Array Value} {n : Nat} (hn : w0.heap.size ≤ n) : OwnW n (VF w0 b1 b2 cs1 cs2) := .and (.blk _ _ _ _) (.and (.blk _ _ _ _) (.below (Nat.le_refl _) hn))
theorem VK.put {w0 : World} {b1 b2 : Nat} {cs1 cs2 : Array Value} {n : Nat} (hn : w0.heap.size ≤ n) (W : World) (l : Nat) (o o' : Obj) (hl : n ≤ l) (h : W.heap[l]? = some o) (ho : o.isCells = false) : VK w0 b1 b2 cs1 cs2 W (W.putObj l o') :=
  fun hF => (VF.own hn).putObj _ hF hl h ho
theorem wrap3 {p k : Nat} (h : p ≤ 1000) (h2 : k ≤ 1000) : IntKind.i64.wrap (IntKind.i64.wrap (2 + IntKind.i64.wrap (p : Int)) + (k : Int)) = ((2 + p + k : Nat) : Int) := by
  have e1 : IntKind.i64.wrap (p : Int) = (p : Int) := by rw [Go.Proofs.YtcfinlmocgbnbaaW.PrintLast.i64_w]; unfold wrap64; omega
  rw [e1]
  have e2 : IntKind.i64.wrap (2 + (p : Int)) = 2 + (p : Int) := by rw [Go.Proofs.YtcfinlmocgbnbaaW.PrintLast.i64_w]; unfold wrap64; omega
  rw [e2, Go.Proofs.YtcfinlmocgbnbaaW.PrintLast.i64_w]
  unfold wrap64
  omega
set_option maxRecDepth 100000 in
set_option maxHeartbeats 4000000 in
theorem vblocks_seq2 (m : Nat) (hm : 5 ≤ m) (w0 : World) (b1 b2 : Nat) {su : List ByteArray} {A0 A1 : Option Addr} {c0 c1 wd half : Nat} {sq hf ln : Int}
    (hsu : Kd.C Kd.string w0 A0 su.length su) (hc0 : su.length ≤ c0) (hso : Kd.C k24 w0 A1 0 ([] : List S24)) (hw : vault_book_wide.f su [] sq hf ln = some (wd : Int)) (hwd : 2 + 2 * wd ≤ su.length) (hl : su.length ≤ 1000) (hh : half ≤ 1) {p : Nat} (hp : half * wd = p) :
    IterSeq Fence.wide m Try.prog 81 #[.pointer (some ⟨b1, 0, none⟩), .pointer (some ⟨b2, 0, none⟩)] (fun k => #[.int .i64 ((2 + p + k : Nat) : Int), .string (rdOf ByteArray.empty su ((2 + p + k : Nat) : Int))]) wd (VF w0 b1 b2 #[.slice A0 su.length c0, .slice A1 0 c1, .int .i64 sq, .int .i64 hf, .int .i64 ln] #[.int .i64 (half : Int)]) VT (VK w0 b1 b2 #[.slice A0 su.length c0, .slice A1 0 c1, .int .i64 sq, .int .i64 hf, .int .i64 ln] #[.int .i64 (half : Int)]) := by
  have hmi : (half : Int) * (wd : Int) = (p : Int) := by rw [← hp]; exact (Int.natCast_mul half wd).symm
  have hp1 : p ≤ wd := by rw [← hp]; exact Nat.le_trans (Nat.mul_le_mul_right wd hh) (by omega)
  intro l J Jx W hS hJT hJxT hY h0
  have HM := Lib.hid (show ∀ W, Below w0.heap.size w0 W → Calls Try.prog 79 #[.agg #[.slice A0 su.length c0, .slice A1 0 c1, .int .i64 sq, .int .i64 hf, .int .i64 ln]] W fun e w' => e = .returned (.int .i64 (wd : Int)) ∧ Below W.heap.size W w' from fun W h => vault_book_wide.calls _ _ su _ c1 [] sq hf ln _ W (Kd.C_below hsu h) hc0 (Kd.C_below hso h) (Nat.zero_le _) hw)
  have d1 : ∀ X, VF w0 b1 b2 #[.slice A0 su.length c0, .slice A1 0 c1, .int .i64 sq, .int .i64 hf, .int .i64 ln] #[.int .i64 (half : Int)] X → X.cell? ⟨b1, 0, none⟩ = some (.slice A0 su.length c0) ∧ X.cell? ⟨b1, 1, none⟩ = some (.slice A1 0 c1) ∧ X.cell? ⟨b1, 2, none⟩ = some (.int .i64 sq) ∧ X.cell? ⟨b1, 3, none⟩ = some (.int .i64 hf) ∧ X.cell? ⟨b1, 4, none⟩ = some (.int .i64 ln) ∧ X.cell? ⟨b2, 0, none⟩ = some (.int .i64 (half : Int)) :=
    fun X hX => ⟨(blk_cell hX.1 0).trans rfl, (blk_cell hX.1 1).trans rfl, (blk_cell hX.1 2).trans rfl, (blk_cell hX.1 3).trans rfl, (blk_cell hX.1 4).trans rfl, (blk_cell hX.2.1 0).trans rfl⟩
  obtain ⟨x0, x1, x2, x3, x4, x5⟩ := d1 W hS
  refine callsIn_of_wp Try.func81 rfl trivial ?_ rfl
  simp only [Try.ntmps81, List.size_toArray, List.length_cons, List.length_nil, Nat.reduceAdd, Nat.reduceSub, Array.replicate_succ, Array.replicate_zero, List.push_toArray, List.append_toArray, List.nil_append, List.cons_append]
  gi_wp2_with fail
  refine ⟨trivial, (fun _ => by omega), (callsIn_wide.2 (HM.out _ hS.2.2)).mono ?_⟩
  rintro e W1 ⟨rfl, hb⟩
  have hS1 : VF w0 b1 b2 #[.slice A0 su.length c0, .slice A1 0 c1, .int .i64 sq, .int .i64 hf, .int .i64 ln] #[.int .i64 (half : Int)] W1 := hS.below hb
  have h01 := hJT 0 W W1 h0 hb
  clear x0 x1 x2 x3 x4 x5 h0 hb
  gi_wp2_with fail
  gi_loopw [8] (fun v wr => ∃ k : Nat, k ≤ wd ∧ v = .int .i64 (k : Int) ∧ J k wr ∧ VF w0 b1 b2 #[.slice A0 su.length c0, .slice A1 0 c1, .int .i64 sq, .int .i64 hf, .int .i64 ln] #[.int .i64 (half : Int)] wr) (fun v _ => wd - (intOf v).toNat)
  case atStart => exact ⟨0, by omega, rfl, h01, hS1⟩
  case round =>
    obtain ⟨k, hk, rfl, hJs, hB⟩ := hrel
    by_cases hlt : k < wd
    · obtain ⟨x0, x1, x2, x3, x4, x5⟩ := d1 wr hB
      gi_wp2_with fail
      have y0 := fun q : XB.In (Below wr.heap.size wr) => (d1 q.w (hB.below q.h)).1
      have y1 := fun q : XB.In (Below wr.heap.size wr) => (d1 q.w (hB.below q.h)).2.1
      have y2 := fun q : XB.In (Below wr.heap.size wr) => (d1 q.w (hB.below q.h)).2.2.1
      have y3 := fun q : XB.In (Below wr.heap.size wr) => (d1 q.w (hB.below q.h)).2.2.2.1
      have y4 := fun q : XB.In (Below wr.heap.size wr) => (d1 q.w (hB.below q.h)).2.2.2.2.1
      have y5 := fun q : XB.In (Below wr.heap.size wr) => (d1 q.w (hB.below q.h)).2.2.2.2.2
      have ym := fun q : XB.In (Below wr.heap.size wr) => HM.out q.w (hB.below q.h).2.2
      have HD := Lib.hid d1
      have HJ := Lib.hid hJs
      have HY2 := Lib.hid hY
      have HT2 := Lib.hid hJT
      clear d1 hJs hY hJT hJxT x0 x1 x2 x3 x4 x5
      haveI hne : Nonempty (XB.In (Below wr.heap.size wr)) := ⟨⟨wr.drew, below_drew1 (Below.refl _ _)⟩⟩
      refine XB.wide_all (fun w' => ∃ q : XB.In (Below wr.heap.size wr), w' = q.w) (by kernel_rfl) (by kernel_rfl) (by kernel_rfl) ⟨⟨wr.drew, below_drew1 (Below.refl _ _)⟩, rfl⟩ ?_
      iterate 8 quiet_step (first | (go_at_call 79; with_reducible exact XB.in_belowB (ym _)))
      refine wpQuiet_nil ?_
      rintro Y ⟨⟨_, hq⟩, rfl⟩
      have hp2 : p ≤ 1000 := by omega
      have hk2 : k ≤ 1000 := by omega
      rw [wrap3 hp2 hk2]
      clear y0 y1 y2 y3 y4 y5 ym hne
      obtain ⟨i, hi⟩ : ∃ i : Nat, 2 + p + k = i := ⟨_, rfl⟩
      have hin : i < su.length := by omega
      have hYB : VF w0 b1 b2 #[.slice A0 su.length c0, .slice A1 0 c1, .int .i64 sq, .int .i64 hf, .int .i64 ln] #[.int .i64 (half : Int)] Y := hB.below hq
      have hjY := HT2.out k wr Y HJ.out hq
      obtain ⟨x0, x1, x2, x3, x4, x5⟩ := HD.out Y hYB
      obtain ⟨ad, hA, r0⟩ := Kd.at_string (Kd.C_below hsu hYB.2.2) (i : Int) (by omega) (by omega)
      rw [hA] at x0
      simp only [Int.toNat_natCast] at r0
      obtain ⟨fn, tmps, assign, body, hy, hR⟩ := HY2.out k Y hjY hlt
      rw [hi] at hy ⊢
      have hi0 : (0 : Int) ≤ i := by omega
      have hi1 : (i : Int) < su.length := by omega
      have hw1 : wrap64 ((k : Int) + 1) = ((k + 1 : Nat) : Int) := by unfold wrap64; omega
      have HYB := Lib.hid hYB
      have HI2 := Lib.hid hk
      clear hjY hsu hso hw HM HD HY2 HT2 HJ hA hi hmi hYB
      gi_wp2_with fail
      refine ⟨fun _ => by omega, hR.mono ?_⟩
      rintro e W3 (⟨rfl, hJ3, hk3⟩ | ⟨rfl, hJx3⟩)
      · have HW := Lib.hid hw1
        clear hw1 x0 x1 x2 x3 x4 x5 r0
        gi_wp2_with fail
        go_roundw
        case rel => exact ⟨k + 1, by omega, congrArg (Value.int .i64) (by first | exact HW.out | omega), hJ3, hk3 HYB.out⟩
        case measure => simp [intOf]; omega
      · gi_wp2_with fail
        refine bodyPost_ret (results_none rfl _ _ _) rfl ?_
        exact ⟨⟨_, rfl⟩, .inr ⟨k + 1, by omega, hJx3⟩⟩
    · obtain rfl : k = wd := by omega
      gi_wp2_with fail
      go_end0
      exact ⟨⟨_, rfl⟩, .inl hJs⟩
theorem wp_range_seq {n : Nat} {P : Program} {g : Operand} {ps : Array Tmp} {assign body : Code} {Q : Exit → Act → World → Prop} {tmps : Array Value} {w : World}
    (hn : 1 ≤ n) {gf : Nat} {lb : Array Value} (hg : ({ tmps := tmps, defers := [] } : Act).eval g = .func (.func gf) #[] lb) (eg : ∀ args w, (callFunc gf args).run P w = .ok (.enter gf args) w)
    {vals : Nat → Array Value} {N : Nat} {Start : World → Prop} {Tch Kp : World → World → Prop} (hseq : IterSeq Fence.wide (n - 1) P gf lb vals N Start Tch Kp)
    (hStart : OwnW w.heap.size Start) (hs0 : Start w) (hT : ∀ A B, Tch A B → KeepsFrom w.heap.size A B)
    (hKt : ∀ {A B C : World}, Kp A B → Kp B C → Kp A C) (hKb : ∀ (W : World) (l : Nat) (o o' : Obj), w.heap.size ≤ l → W.heap[l]? = some o → o.isCells = false → Kp W (W.putObj l o')) (hps : ∀ k, (vals k).size = ps.size)
    (I : Nat → World → Prop) (Ix : Code → Nat → World → Prop) (hI : ∀ k, OwnW w.heap.size (I k)) (hIx : ∀ c k, OwnW w.heap.size (Ix c k))
    (hIT : ∀ k A B, I k A → Tch A B → I k B) (hIxT : ∀ c k A B, Ix c k A → Tch A B → Ix c k B) (h0 : I 0 w) (a₁ : Nat → Act)
    (hassign : ∀ (l k : Nat) (W : World) (K : Act → World → Prop), K (a₁ k) W →
      assign.wpIn (Fence.wide.inRound l) (n - 1 - 1) P (Exit.then K (fun _ _ _ => False)) { tmps := (ps.zip (vals k)).foldl (fun t (p, v) => t.setIfInBounds p v) tmps, defers := [] } W)
    (hbody : ∀ (l k : Nat) (W : World), I k W → k < N → body.wpIn (Fence.wide.inRound l) (n - 1 - 1) P (seqPost w.heap.size Kp I Ix (k + 1) W) (a₁ k) W)
    (hdone : ∀ (D : Nat) (W : World), w.heap.size ≤ D → I N W → W.heap[D]? = some (.deferred (some [])) → Q .normal { tmps := tmps, defers := [{ target := .collected D, args := #[] }] } W)
    (hstop : ∀ (D : Nat) (c : Code) (k : Nat) (W : World), w.heap.size ≤ D → k ≤ N → Ix c k W → W.heap[D]? = some (.deferred (some [])) → c.wp P Q { tmps := tmps, defers := [{ target := .collected D, args := #[] }] } W) :
    (Code.rangeFunc g ps assign body).wp P Q { tmps := tmps, defers := [] } w :=
  wpIn_wide.1 (wpIn_rangeFunc_seq (n := n) rfl hn hg trivial eg hseq hStart hs0 hT hKt hKb hps I Ix hI hIx hIT hIxT h0 a₁ hassign hbody hdone (fun D c k W h1 h2 h3 h4 => wpIn_wide.2 (hstop D c k W h1 h2 h3 h4)))
end Go.Proofs.Ytcfinlmocgbnbaa.Pr
end
section
namespace Go.Proofs.Ytcfinlmocgbnbaa.Pr
open Go.RowKit Go.Shelf Go.Proofs.Ytcfinlmocgbnbaa.XB Go.Proofs.YtcfinlmocgbnbaaW.PrintWords
attribute [local go_sem] Oper.semAt_some
set_option linter.unusedVariables false
set_option linter.unusedSimpArgs false
variable {F : Fence} {n : Nat} {P : Program}
theorem assign_two (l rid p q d ty : Nat) (pos : String) (x y : Value) (tmps : Array Value) (W : World) (K : Act → World → Prop) (hq : q < tmps.size)
    (hK : K { tmps := ((tmps.setIfInBounds p x).setIfInBounds q y).setIfInBounds d y, defers := [] } W) :
    (Code.region rid #[{ dst := some d, op := Op.assign (Operand.tmp q), type := ty, pos := pos, after := #[], guard := none }] false).wpIn (F.inRound l) n P (Exit.then K (fun _ _ _ => False)) { tmps := ((#[p, q] : Array Tmp).zip #[x, y]).foldl (fun t (p, v) => t.setIfInBounds p v) tmps, defers := [] } W := by
  rw [zip_two]
  have hv : (((tmps.setIfInBounds p x).setIfInBounds q y)[q]?).getD undef = y := by simp [hq]
  have hv2 : ((tmps.setIfInBounds p x).setIfInBounds q y).getD q undef = y := by simpa using hv
  generalize (tmps.setIfInBounds p x).setIfInBounds q y = t at *
  gi_wp2
  exact hK
theorem assign_both (l r1 r2 p q d1 d2 ty1 ty2 : Nat) (pos1 pos2 : String) (x y : Value) (tmps : Array Value) (W : World) (K : Act → World → Prop) (hp : p < tmps.size) (hq : q < tmps.size) (hpq : q ≠ p) (hd : d1 ≠ q)
    (hK : K { tmps := (((tmps.setIfInBounds p x).setIfInBounds q y).setIfInBounds d1 x).setIfInBounds d2 y, defers := [] } W) :
    ((Code.region r1 #[{ dst := some d1, op := Op.assign (Operand.tmp p), type := ty1, pos := pos1, after := #[], guard := none }] false).seq (Code.region r2 #[{ dst := some d2, op := Op.assign (Operand.tmp q), type := ty2, pos := pos2, after := #[], guard := none }] false)).wpIn (F.inRound l) n P (Exit.then K (fun _ _ _ => False)) { tmps := ((#[p, q] : Array Tmp).zip #[x, y]).foldl (fun t (p, v) => t.setIfInBounds p v) tmps, defers := [] } W := by
  rw [zip_two]
  have hv : (((tmps.setIfInBounds p x).setIfInBounds q y)[p]?).getD undef = x := by simp [hp, hpq]
  have hv2 : ((tmps.setIfInBounds p x).setIfInBounds q y).getD p undef = x := by simpa using hv
  have hw : ((((tmps.setIfInBounds p x).setIfInBounds q y).setIfInBounds d1 x)[q]?).getD undef = y := by simp [hq, hd]
  have hw2 : (((tmps.setIfInBounds p x).setIfInBounds q y).setIfInBounds d1 x).getD q undef = y := by simpa using hw
  generalize (tmps.setIfInBounds p x).setIfInBounds q y = t at *
  gi_wp2
  exact hK
theorem wp_range2b {p q d rid ty : Nat} {pos : String} {body : Code} {g : Operand} {Q : Exit → Act → World → Prop} {tmps : Array Value} {w : World}
    (hn : 1 ≤ n) {gf : Nat} {lb : Array Value} (hg : ({ tmps := tmps, defers := [] } : Act).eval g = .func (.func gf) #[] lb) (eg : ∀ args w, (callFunc gf args).run P w = .ok (.enter gf args) w)
    (x y : Nat → Value) (N : Nat) {Start : World → Prop} {Tch Kp : World → World → Prop} (hseq : IterSeq Fence.wide (n - 1) P gf lb (fun k => #[x k, y k]) N Start Tch Kp)
    (hStart : OwnW w.heap.size Start) (hs0 : Start w) (hT : ∀ A B, Tch A B → KeepsFrom w.heap.size A B)
    (hKt : ∀ {A B C : World}, Kp A B → Kp B C → Kp A C) (hKb : ∀ (W : World) (l : Nat) (o o' : Obj), w.heap.size ≤ l → W.heap[l]? = some o → o.isCells = false → Kp W (W.putObj l o')) (hq : q < tmps.size)
    (I : Nat → World → Prop) (Ix : Code → Nat → World → Prop) (hI : ∀ k, OwnW w.heap.size (I k)) (hIx : ∀ c k, OwnW w.heap.size (Ix c k))
    (hIT : ∀ k A B, I k A → Tch A B → I k B) (hIxT : ∀ c k A B, Ix c k A → Tch A B → Ix c k B) (h0 : I 0 w)
    (hbody : ∀ (l k : Nat) (W : World), I k W → k < N → body.wpIn (Fence.wide.inRound l) (n - 1 - 1) P (seqPost w.heap.size Kp I Ix (k + 1) W) { tmps := ((tmps.setIfInBounds p (x k)).setIfInBounds q (y k)).setIfInBounds d (y k), defers := [] } W)
    (hdone : ∀ (D : Nat) (W : World), w.heap.size ≤ D → I N W → W.heap[D]? = some (.deferred (some [])) → Q .normal { tmps := tmps, defers := [{ target := .collected D, args := #[] }] } W)
    (hstop : ∀ (D : Nat) (c : Code) (k : Nat) (W : World), w.heap.size ≤ D → k ≤ N → Ix c k W → W.heap[D]? = some (.deferred (some [])) → c.wp P Q { tmps := tmps, defers := [{ target := .collected D, args := #[] }] } W) :
    (Code.rangeFunc g #[p, q] (Code.region rid #[{ dst := some d, op := Op.assign (Operand.tmp q), type := ty, pos := pos, after := #[], guard := none }] false) body).wp P Q { tmps := tmps, defers := [] } w :=
  wp_range_seq hn hg eg hseq hStart hs0 hT hKt hKb (fun _ => rfl) I Ix hI hIx hIT hIxT h0 _ (fun l k W K hK => assign_two l rid p q d ty pos (x k) (y k) tmps W K hq hK) hbody hdone hstop
theorem wp_range2 {p q d1 d2 r1 r2 ty1 ty2 : Nat} {pos1 pos2 : String} {body : Code} {g : Operand} {Q : Exit → Act → World → Prop} {tmps : Array Value} {w : World}
    (hn : 1 ≤ n) {gf : Nat} {lb : Array Value} (hg : ({ tmps := tmps, defers := [] } : Act).eval g = .func (.func gf) #[] lb) (eg : ∀ args w, (callFunc gf args).run P w = .ok (.enter gf args) w)
    (x y : Nat → Value) (N : Nat) {Start : World → Prop} {Tch Kp : World → World → Prop} (hseq : IterSeq Fence.wide (n - 1) P gf lb (fun k => #[x k, y k]) N Start Tch Kp)
    (hStart : OwnW w.heap.size Start) (hs0 : Start w) (hT : ∀ A B, Tch A B → KeepsFrom w.heap.size A B)
    (hKt : ∀ {A B C : World}, Kp A B → Kp B C → Kp A C) (hKb : ∀ (W : World) (l : Nat) (o o' : Obj), w.heap.size ≤ l → W.heap[l]? = some o → o.isCells = false → Kp W (W.putObj l o')) (hp : p < tmps.size) (hq : q < tmps.size) (hpq : q ≠ p) (hd : d1 ≠ q)
    (I : Nat → World → Prop) (Ix : Code → Nat → World → Prop) (hI : ∀ k, OwnW w.heap.size (I k)) (hIx : ∀ c k, OwnW w.heap.size (Ix c k))
    (hIT : ∀ k A B, I k A → Tch A B → I k B) (hIxT : ∀ c k A B, Ix c k A → Tch A B → Ix c k B) (h0 : I 0 w)
    (hbody : ∀ (l k : Nat) (W : World), I k W → k < N → body.wpIn (Fence.wide.inRound l) (n - 1 - 1) P (seqPost w.heap.size Kp I Ix (k + 1) W) { tmps := (((tmps.setIfInBounds p (x k)).setIfInBounds q (y k)).setIfInBounds d1 (x k)).setIfInBounds d2 (y k), defers := [] } W)
    (hdone : ∀ (D : Nat) (W : World), w.heap.size ≤ D → I N W → W.heap[D]? = some (.deferred (some [])) → Q .normal { tmps := tmps, defers := [{ target := .collected D, args := #[] }] } W)
    (hstop : ∀ (D : Nat) (c : Code) (k : Nat) (W : World), w.heap.size ≤ D → k ≤ N → Ix c k W → W.heap[D]? = some (.deferred (some [])) → c.wp P Q { tmps := tmps, defers := [{ target := .collected D, args := #[] }] } W) :
    (Code.rangeFunc g #[p, q] ((Code.region r1 #[{ dst := some d1, op := Op.assign (Operand.tmp p), type := ty1, pos := pos1, after := #[], guard := none }] false).seq (Code.region r2 #[{ dst := some d2, op := Op.assign (Operand.tmp q), type := ty2, pos := pos2, after := #[], guard := none }] false)) body).wp P Q { tmps := tmps, defers := [] } w :=
  wp_range_seq hn hg eg hseq hStart hs0 hT hKt hKb (fun _ => rfl) I Ix hI hIx hIT hIxT h0 _ (fun l k W K hK => assign_both l r1 r2 p q d1 d2 ty1 ty2 pos1 pos2 (x k) (y k) tmps W K hp hq hpq hd hK) hbody hdone hstop
end Go.Proofs.Ytcfinlmocgbnbaa.Pr
end
section
namespace Go.Proofs
open Go.Shelf
def Try.lays166_ren : Go.Shelf.Ren := ⟨fun | 105 => 40 | 212 => 65 | 99 => 66 | 165 => 67 | 166 => 68 | 170 => 69 | 169 => 70 | 263 => 85 | 264 => 86 | 206 => 87 | 240 => 88 | 241 => 89 | 276 => 96 | 277 => 97 | n => n, fun | 9 => 9 | 3 => 3 | 4 => 4 | 20 => 20 | 0 => 0 | 46 => 97 | 109 => 98 | 5 => 5 | 72 => 103 | 76 => 107 | 51 => 122 | 146 => 123 | 53 => 125 | 148 => 126 | 70 => 101 | 37 => 49 | 75 => 106 | 127 => 128 | 164 => 133 | 80 => 90 | n => n, fun | n => n⟩
theorem Try.lays166 : Go.Proofs.Lays.n166 Try.prog Try.lays166_ren := {
  mixed := by kernel_rfl
  f166 := Try.func68.trans (congrArg some (by kernel_rfl))
  f240 := Try.func88.trans (congrArg some (by kernel_rfl))
  f276 := Try.func96.trans (congrArg some (by kernel_rfl))
  t0 := Try.underlying0
  a0 := Try.isAgg0
  z0 := Try.sizeOf0
  v0 := Try.zeroValue0
  t3 := Try.underlying3
  a3 := Try.isAgg3
  z3 := Try.sizeOf3
  v3 := Try.zeroValue3
  t4 := Try.underlying4
  a4 := Try.isAgg4
  z4 := Try.sizeOf4
  v4 := Try.zeroValue4
  t9 := Try.underlying9
  a9 := Try.isAgg9
  z9 := Try.sizeOf9
  v9 := Try.zeroValue9
  t20 := Try.underlying20
  a20 := Try.isAgg20
  z20 := Try.sizeOf20
  v20 := Try.zeroValue20
  t37 := Try.underlying49
  a37 := Try.isAgg49
  z37 := Try.sizeOf49
  v37 := Try.zeroValue49
  t70 := Try.underlying101
  a70 := Try.isAgg101
  z70 := Try.sizeOf101
  v70 := Try.zeroValue101
  t72 := Try.underlying103
  a72 := Try.isAgg103
  z72 := Try.sizeOf103
  v72 := Try.zeroValue103
  t75 := Try.underlying106
  a75 := Try.isAgg106
  z75 := Try.sizeOf106
  v75 := Try.zeroValue106
  t164 := Try.underlying133
  a164 := Try.isAgg133
  z164 := Try.sizeOf133
  v164 := Try.zeroValue133 }
theorem Try.Builder_Extra_166 : Builder.Extra Try.prog Try.lays166_ren := {
  sizeBuilder := by kernel_rfl
  liesBuilder := by kernel_rfl
  t5 := Try.underlying5
  a5 := Try.isAgg5
  z5 := Try.sizeOf5
  v5 := Try.zeroValue5
  infoByte := by kernel_rfl
  cellsByte := by kernel_rfl
  sizeByte := by kernel_rfl
  neB5 := by decide }
open Go.RowKit in
theorem Try.Builder_WriteString_k (B b : Nat) (bs : List Value) (s : ByteArray) (w : World) (h : Lib.IsBuilderF 103 5 B b bs w) (hlen : bs.length + s.size ≤ 140737488355328) (hBw : B ≤ w.heap.size) :
    Calls Try.prog 68 #[.pointer (some ⟨b, 0, none⟩), .string s] w fun e w' => e = .returned (.tuple #[.int .i64 s.size, .nilIface]) ∧ (Lib.BuilderAtF 103 5 B b (.pointer (some ⟨b, 0, none⟩)) (bs ++ Lib.strCells s) w' ∧ Below B w w' ∧ Lib.OthersKept 5 (some b) w w') := Any.Builder_WriteString_k Try.lays166 Try.Builder_Extra_166 B b bs s w h hlen hBw
end Go.Proofs
namespace Go.Proofs.Ytcfinlmocgbnbaa.Pr
open Go.RowKit Go.Shelf Go.Proofs.Ytcfinlmocgbnbaa.XB Go.Proofs.YtcfinlmocgbnbaaW.PrintWords
attribute [local go_sem] Oper.semAt_some
set_option linter.unusedVariables false
set_option linter.unusedSimpArgs false
theorem bld_grown {B b : Nat} {bs : List Value} {W W' : World} {row : Option Nat} (h : Lib.IsBuilderF 103 5 B b bs W) (hg : W.grownBy W' row) (hr : ∀ r, row = some r → ∃ o : Obj, W.heap[r]? = some o ∧ o.isCells = false) : Lib.IsBuilderF 103 5 B b bs W' := by
  have key : ∀ p, Lib.BuilderAtF 103 5 B b p bs W → Lib.BuilderAtF 103 5 B b p bs W' := by
    rintro p ⟨h1, v, h2, h3, h4⟩
    refine ⟨h1, v, blk_grown h2 hg (fun e => ?_), h3.kept hg ?_, h4⟩
    · obtain ⟨o, ho, hc⟩ := hr b e.symm
      rw [h2] at ho; cases ho; cases hc
    · rcases hv : v.ownBlock with _ | r
      · exact .inl rfl
      · refine .inr (fun e => ?_)
        obtain ⟨o, ho, hc⟩ := hr r e.symm
        obtain ⟨c, fz, hk⟩ := Lib.ownsRowF_kind h3 r hv
        rw [hk] at ho; cases ho; cases hc
  exact h.elim (fun x => .inl (key _ x)) (fun x => .inr (key _ x))
theorem bld_below {B b : Nat} {bs : List Value} {W W' : World} (h : Lib.IsBuilderF 103 5 B b bs W) (hb : Below W.heap.size W W') : Lib.IsBuilderF 103 5 B b bs W' :=
  bld_grown (row := none) h ⟨hb.os, hb.tape, hb.output, hb.size, fun i hi _ => hb.block i hi⟩ (fun r e => by cases e)
theorem bld_own {n B b : Nat} {bs : List Value} : OwnW n (fun W => Lib.IsBuilderF 103 5 B b bs W) := fun W W' row h hg hr => bld_grown h hg (fun r e => (hr r e).2)
theorem others_keeps {B b : Nat} {W W' : World} {n : Nat} (h : Lib.OthersKept 5 (some b) W W') (hb : ∃ cs t fr, W.heap[b]? = some (.cells cs t fr)) (hs : Below B W W') : KeepsFrom n W W' :=
  ⟨hs.size, fun k o _ hk hc => h k o hk (by rintro e; cases e; obtain ⟨cs, t, fr, q⟩ := hb; rw [q] at hk; cases hk; cases hc) (by rintro c fz rfl; cases hc)⟩
theorem others_cells {b g : Nat} {W W' : World} {cs : Array Value} {t : TypeId} {fr : Nat × Nat} (h : Lib.OthersKept 5 (some b) W W') (hg : W.heap[g]? = some (.cells cs t fr)) (ht : t ≠ 5) (hb : g ≠ b) : W'.heap[g]? = some (.cells cs t fr) :=
  h g _ hg (fun e => hb (by cases e; rfl)) (fun c fz e => ht (by cases e; rfl))
theorem bld_cells {B b : Nat} {bs : List Value} {W : World} (h : Lib.IsBuilderF 103 5 B b bs W) : ∃ cs t fr, W.heap[b]? = some (.cells cs t fr) := by
  rcases h with ⟨_, v, h, _⟩ | ⟨_, v, h, _⟩ <;> exact ⟨_, _, _, h⟩
def joinB (su : List ByteArray) (at_ : Nat) : Nat → ByteArray
  | 0 => ⟨#[]⟩
  | k + 1 => joinB su at_ k ++ rdOf ByteArray.empty su ((at_ + k : Nat) : Int)
theorem joinB_size {su : List ByteArray} (h : ∀ s ∈ su, s.size = 64) (at_ : Nat) : ∀ k, at_ + k ≤ su.length → (joinB su at_ k).size = 64 * k
  | 0, _ => rfl
  | k + 1, hk => by
    show (joinB su at_ k ++ _).size = _
    rw [ByteArray.size_append, joinB_size h at_ k (by omega), rdS_size h (by omega) (by omega)]
    omega
def TInv (su : List ByteArray) (at_ : Nat) (w : World) (cs : Array Value) (b1 b2 : Nat) (cs2 : Array Value) (k : Nat) (W : World) : Prop :=
  Lib.IsBuilderF 103 5 w.heap.size (w.heap.size + 1) (Lib.byteCells (joinB su at_ k).data.toList) W ∧ W.heap[w.heap.size]? = some (.cells cs 89 (0, 0)) ∧ VF w b1 b2 cs cs2 W
def TS (T : ByteArray) (cs : Array Value) (w : World) (D : Nat) (X : World) : Prop :=
  Below w.heap.size w X ∧ X.heap[w.heap.size]? = some (.cells cs 89 (0, 0)) ∧ Lib.IsBuilderF 103 5 w.heap.size (w.heap.size + 1) (Lib.byteCells T.data.toList) X ∧ X.heap[D]? = some (.deferred (some []))
theorem tinv_own {su : List ByteArray} {at_ : Nat} {w : World} {cs : Array Value} {b1 b2 : Nat} {cs2 : Array Value} {k b : Nat} (hb : w.heap.size ≤ b) : OwnW b (TInv su at_ w cs b1 b2 cs2 k) :=
  .and bld_own (.and (.blk _ _ _ _) (VF.own hb))
theorem tinv_below {su : List ByteArray} {at_ : Nat} {w : World} {cs : Array Value} {b1 b2 : Nat} {cs2 : Array Value} {k : Nat} {X Y : World} (h : TInv su at_ w cs b1 b2 cs2 k X) (ht : VT X Y) : TInv su at_ w cs b1 b2 cs2 k Y :=
  ⟨bld_below h.1 ht, blk_same h.2.1 ht, h.2.2.below ht⟩
set_option maxRecDepth 100000 in
set_option maxHeartbeats 4000000 in
theorem vtext_calls {su : List ByteArray} {A0 A1 : Option Addr} {c0 c1 wd half ln : Nat} {sq : Int} (w : World)
    (hsu : Kd.C Kd.string w A0 su.length su) (hc0 : su.length ≤ c0) (hso : Kd.C k24 w A1 0 ([] : List S24)) (hw : vault_book_wide.f su [] sq half ln = some (wd : Int)) (hwd : 2 + 2 * wd ≤ su.length) (hl : su.length ≤ 1000) (hh : half ≤ 1) {p : Nat} (hp : half * wd = p)
    (hz : ∀ s ∈ su, s.size = 64) (hln : ln ≤ 64 * wd) :
    Calls Try.prog 61 #[.agg #[.slice A0 su.length c0, .slice A1 0 c1, .int .i64 sq, .int .i64 (half : Int), .int .i64 (ln : Int)]] w fun e w' => e = .returned (.string ((joinB su (2 + p) wd).extract 0 ln)) ∧ Below w.heap.size w w' := by
  have hp1 : p ≤ wd := by rw [← hp]; exact Nat.le_trans (Nat.mul_le_mul_right wd hh) (by omega)
  refine (callsIn_wide (n := 9)).1 (callsIn_of_wp_marks Try.func61 rfl trivial ?_ rfl)
  refine XB.QM_wp ?_
  simp only [Try.ntmps61, List.size_toArray, List.length_cons, List.length_nil, Nat.reduceAdd, Nat.reduceSub, Array.replicate_succ, Array.replicate_zero, List.push_toArray, List.append_toArray, List.nil_append, List.cons_append]
  go_wp2_with (go_at_call 62; with_reducible refine (vblocks_calls _).mono ?_; rintro e W1 ⟨g1, g2, rfl, hb1, hb2, hbb⟩)
  have F0 : W1.heap[w.heap.size]? = some (.cells #[.slice A0 su.length c0, .slice A1 0 c1, .int .i64 sq, .int .i64 (half : Int), .int .i64 (ln : Int)] 89 (0, 0)) := blk_same (heap_alloc2_old w _ _) hbb
  have F1 : W1.heap[w.heap.size + 1]? = some (.cells #[.pointer none, .slice none 0 0] 103 (0, 0)) := blk_same (heap_alloc2_new w _ _) hbb
  have FB : Below w.heap.size w W1 := below_step (below_alloc (below_alloc (Below.refl w.heap.size w) _) _) hbb
  have z1 : w.heap.size + 1 < W1.heap.size := Go.Proofs.YtcfinlmocgbnbaaW.PrintWords.blk_lt F1
  clear hbb
  have hne1 : g1 ≠ w.heap.size + 1 := by rintro rfl; rw [F1] at hb1; cases hb1
  have hne2 : g2 ≠ w.heap.size + 1 := by rintro rfl; rw [F1] at hb2; cases hb2
  have hbld : Lib.IsBuilderF 103 5 w.heap.size (w.heap.size + 1) (Lib.byteCells (joinB su (2 + p) 0).data.toList) W1 := .inl ⟨by omega, _, F1, World.ownsRowF_nil _ _ _ _, by simp [Value.ownBlock]⟩
  refine wp_range2b (n := 9) (by omega) (gf := 81) (lb := #[.pointer (some ⟨g1, 0, none⟩), .pointer (some ⟨g2, 0, none⟩)]) rfl (enters_of Try.func81 (by kernel_rfl) rfl) (fun k => .int .i64 ((2 + p + k : Nat) : Int)) (fun k => .string (rdOf ByteArray.empty su ((2 + p + k : Nat) : Int))) wd
    (vblocks_seq2 8 (by omega) w g1 g2 hsu hc0 hso hw hwd hl hh hp) (VF.own FB.size) ⟨hb1, hb2, FB⟩ (fun A B h => keeps_below h) (fun h k q => k (h q)) (fun W l o o' h1 h2 h3 => VK.put FB.size W l o o' h1 h2 h3) (by simp)
    (TInv su (2 + p) w #[.slice A0 su.length c0, .slice A1 0 c1, .int .i64 sq, .int .i64 (half : Int), .int .i64 (ln : Int)] g1 g2 #[.int .i64 (half : Int)]) (fun _ _ _ => False) (fun k => tinv_own FB.size) (fun _ _ => .pure _) (fun k A B h ht => tinv_below h ht) (fun _ _ _ _ h _ => h) ⟨hbld, F0, hb1, hb2, FB⟩ ?body ?done (fun _ _ _ _ _ _ h _ => h.elim)
  case body =>
    rintro l k W ⟨hb, h0, hF⟩ hk
    have hds := joinB_size hz (2 + p) k (by omega)
    have hps := rdS_size hz (b := ((2 + p + k : Nat) : Int)) (by omega) (by omega)
    have hbl : (Lib.byteCells (joinB su (2 + p) k).data.toList).length = 64 * k := by rw [Lib.byteCells_length]; exact hds
    have HNX := Lib.hid (show Lib.byteCells (joinB su (2 + p) k).data.toList ++ Lib.strCells (rdOf ByteArray.empty su ((2 + p + k : Nat) : Int)) = Lib.byteCells (joinB su (2 + p) (k + 1)).data.toList by
      show _ = Lib.byteCells (joinB su (2 + p) k ++ rdOf ByteArray.empty su ((2 + p + k : Nat) : Int)).data.toList
      rw [Lib.strCells_eq, ← Lib.byteCells_append, ByteArray.data_append, Array.toList_append])
    have HW := Lib.hid (Try.Builder_WriteString_k w.heap.size (w.heap.size + 1) _ (rdOf ByteArray.empty su ((2 + p + k : Nat) : Int)) W hb (by rw [hbl, hps]; omega) hF.2.2.size)
    have HB := Lib.hid hb
    have H0 := Lib.hid h0
    have HF := Lib.hid hF
    clear hb h0 hF hds hps hbl hw hsu hso hz hbld F0 F1 hb1 hb2
    generalize rdOf ByteArray.empty su ((2 + p + k : Nat) : Int) = dj at *
    gi_wp2_with fail
    refine ⟨trivial, ?_⟩
    refine (CallsIn.inRound l (callsIn_wide.2 HW.out)).mono ?_
    rintro e W2 ⟨rfl, hb2, hB2, hO2⟩
    rw [HNX.out] at hb2
    have VV : VK w g1 g2 #[.slice A0 su.length c0, .slice A1 0 c1, .int .i64 sq, .int .i64 (half : Int), .int .i64 (ln : Int)] #[.int .i64 (half : Int)] W W2 := fun q => ⟨others_cells hO2 q.1 (by decide) hne1, others_cells hO2 q.2.1 (by decide) hne2, q.2.2.trans hB2⟩
    gi_wp2
    exact ⟨others_keeps hO2 (bld_cells HB.out) hB2, VV, .inr hb2, others_cells hO2 H0.out (by decide) (by omega), VV HF.out⟩
  case done =>
    rintro D W hD ⟨hb, h0, hF⟩ hDD
    have hds := joinB_size hz (2 + p) wd (by omega)
    generalize hTe : joinB su (2 + p) wd = T at *
    have HTE := Lib.hid hTe
    clear hTe
    have hnT : (ln : Int) ≤ (T.size : Int) := by omega
    have hD1 : D ≠ w.heap.size + 1 := by omega
    have hstr : ∀ q : XB.In (TS T #[.slice A0 su.length c0, .slice A1 0 c1, .int .i64 sq, .int .i64 (half : Int), .int .i64 (ln : Int)] w D), Calls Try.prog 70 #[.pointer (some ⟨w.heap.size + 1, 0, none⟩)] q.w fun e w'' => e = .returned (.string T) ∧ ∃ q : XB.In (TS T #[.slice A0 su.length c0, .slice A1 0 c1, .int .i64 sq, .int .i64 (half : Int), .int .i64 (ln : Int)] w D), w'' = q.w := fun q => by
      refine (Try.Builder_String_any_k w.heap.size (w.heap.size + 1) T.data.toList q.w q.h.2.2.1 q.h.1.size).mono ?_
      rintro e w' ⟨rfl, h1, h2, h3⟩
      exact ⟨by simp, ⟨w', q.h.1.trans h2, others_cells h3 q.h.2.1 (by decide) (by omega), h1, h3 D _ q.h.2.2.2 (by rintro e; cases e; omega) (by rintro c fz e; cases e)⟩, rfl⟩
    have d5 : ∀ q : XB.In (TS T #[.slice A0 su.length c0, .slice A1 0 c1, .int .i64 sq, .int .i64 (half : Int), .int .i64 (ln : Int)] w D), q.w.cell? ⟨w.heap.size, 4, none⟩ = some (.int .i64 (ln : Int)) := fun q => (blk_cell q.h.2.1 4).trans rfl
    have HSTR := Lib.hid hstr
    have hS : TS T #[.slice A0 su.length c0, .slice A1 0 c1, .int .i64 sq, .int .i64 (half : Int), .int .i64 (ln : Int)] w D W.drew := ⟨below_drew1 hF.2.2, h0, hb.elim (fun x => .inl x.drew) (fun x => .inr x.drew), hDD⟩
    clear hstr hb h0 hF hDD hds F0 F1 hbld hw hsu hso hz
    haveI hne : Nonempty (XB.In (TS T #[.slice A0 su.length c0, .slice A1 0 c1, .int .i64 sq, .int .i64 (half : Int), .int .i64 (ln : Int)] w D)) := ⟨⟨W.drew, hS⟩⟩
    go_wp2
    refine XB.region_all (fun w' => ∃ q : XB.In (TS T #[.slice A0 su.length c0, .slice A1 0 c1, .int .i64 sq, .int .i64 (half : Int), .int .i64 (ln : Int)] w D), w' = q.w) (by kernel_rfl) (by kernel_rfl) ⟨⟨W.drew, hS⟩, rfl⟩ ?_
    iterate 6 quiet_step ((go_at_call 70; with_reducible exact HSTR.out _))
    refine wpQuiet_nil ?_
    rintro Y ⟨⟨_, hY⟩, rfl⟩
    have HY := Lib.hid hY
    clear hY d5 hne
    go_wp2
    refine XB.QM_ret (.inl rfl) HY.out.2.2.2 (XB.resultsX_single rfl (.tmp .nil)) ⟨by rw [HTE.out]; rfl, (XB.OwnW.below (Nat.le_refl _) FB.size).putObj _ HY.out.1 hD HY.out.2.2.2 rfl⟩
end Go.Proofs.Ytcfinlmocgbnbaa.Pr
end
section
namespace Go.Proofs.Ytcfinlmocgbnbaa.Pr
open Go.Proofs.Ytcfinlmocgbnbaa.Sq Go.RowKit Go.Shelf Go.Proofs.Ytcfinlmocgbnbaa.XB Go.Proofs.YtcfinlmocgbnbaaW.PrintWords Go.Proofs.YtcfinlmocgbnbaaW.PrintLast Go.Proofs.YtcfinlmocgbnbaaW.PrintMore
attribute [local go_sem] Oper.semAt_some
set_option linter.unusedVariables false
set_option linter.unusedSimpArgs false
set_option maxRecDepth 100000
def vnext.T8 : Bool × List (List Nat × List Nat) := (true, [([], []), ([], []), ([], []), ([2], [2]), ([3], [3]), ([4], [4]), ([5], [5]), ([6], [6]), ([7, 6], [6, 7]), ([8, 6], [6, 8]), ([6], [6]), ([10, 6, 6], [6, 10]), ([9, 11, 6], [6, 9, 11]), ([6, 12], [6, 12]), ([0, 11, 0], [0]), ([1, 14, 0, 1, 14], [1]), ([13, 15, 0, 1, 2, 3, 4, 5, 6, 7, 8, 9, 10, 11, 12, 13, 14, 15], [13])])
def vnext.B8 : List Nat := [0, 0, 0, 4, 12, 28, 60, 124, 252, 508, 124, 1148, 4092, 8188, 3197, 19583, 65535]
theorem vnext.tab8 : rtab .any (opsOf Try.f59 8) = vnext.T8 := by kernel_rfl
theorem vnext.bits8 : waitsOk vnext.T8.2 vnext.B8 = true := by kernel_rfl
set_option maxHeartbeats 4000000 in
theorem vnext_add {su : List ByteArray} {A0 A1 : Option Addr} {c0 c1 half ln : Nat} {sq rm : Int} {s T U : ByteArray} {n : Nat} (hU : T ++ s = U) (hsz : U.size = n) (w : World)
    (hsu : Kd.C Kd.string w A0 su.length su) (hc0 : su.length ≤ c0) (hso : Kd.C k24 w A1 0 ([] : List S24)) (hq0 : 0 ≤ sq) (hq1 : sq + 1 ≤ 1099511627776) (hT : n ≤ 1000000)
    (hTx : ∀ W, Below w.heap.size w W → Calls Try.prog 61 #[.agg #[.slice A0 su.length c0, .slice A1 0 c1, .int .i64 sq, .int .i64 (half : Int), .int .i64 (ln : Int)]] W fun e w' => e = .returned (.string T) ∧ Below W.heap.size W w')
    (hrm : vault_book_room.f su [] (sq + 1) half (n : Int) = some rm) :
    Calls Try.prog 59 #[.agg #[.slice A0 su.length c0, .slice A1 0 c1, .int .i64 sq, .int .i64 (half : Int), .int .i64 (ln : Int)], .string s, .bool false] w fun e w' =>
      e = .returned (.tuple #[.agg #[.slice A0 su.length c0, .slice A1 0 c1, .int .i64 (sq + 1), .int .i64 (half : Int), .int .i64 (n : Int)], .string U, .bool (decide ((n : Int) ≤ rm))]) ∧ Below w.heap.size w w' := by
  have HT := Lib.hid hTx
  have HM := Lib.hid (show ∀ W, Below w.heap.size w W → Calls Try.prog 58 #[.agg #[.slice A0 su.length c0, .slice A1 0 c1, .int .i64 (sq + 1), .int .i64 (half : Int), .int .i64 (n : Int)]] W fun e w' => e = .returned (.int .i64 rm) ∧ Below W.heap.size W w' from fun W h => vault_book_room.calls _ _ su _ c1 [] _ _ _ rm W (Kd.C_below hsu h) hc0 (Kd.C_below hso h) (Nat.zero_le _) hrm)
  have t2 : ¬ 9223372036854775807 < T.size + s.size := by have := congrArg ByteArray.size hU; rw [ByteArray.size_append, hsz] at this; omega
  have HU := Lib.hid hU
  have HSZ := Lib.hid hsz
  clear hU hsz hTx hsu hso hrm
  go_enter Try.func59, Try.ntmps59
  go_wp2_with fail
  generalize hW0 : World.alloc (World.alloc (World.alloc w _) _) _ = W0
  have F1 : W0.heap[w.heap.size + 1]? = some (.cells #[.slice none 0 0, .slice none 0 0, .int .i64 0, .int .i64 0, .int .i64 0] 89 (0, 0)) := by rw [← hW0]; exact (boxes3 w _ _ _).2.1
  have F2 : W0.heap[w.heap.size + 1 + 1]? = some (.cells #[.slice A0 su.length c0, .slice A1 0 c1, .int .i64 (sq + 1), .int .i64 (half : Int), .int .i64 (ln : Int)] 89 (0, 0)) := by rw [← hW0]; exact (boxes3 w _ _ _).2.2
  have FB : Below w.heap.size w W0 := by rw [← hW0]; exact below_alloc (below_alloc (below_alloc (Below.refl _ _) _) _) _
  clear hW0
  refine (HT.out W0 FB).mono ?_
  rintro e W1 ⟨rfl, hb⟩
  have G1 := Lib.hid (blk_same F1 hb)
  have G2 := Lib.hid (blk_same F2 hb)
  have GB := Lib.hid (below_step FB hb)
  have c4 := (blk_cell (blk_same F2 hb) 4).trans rfl
  have f4 := blk_frozen (blk_same F2 hb) 4
  clear hb F1 F2 FB HT
  have hU := HU.out
  have hsz := HSZ.out
  go_wp2_with fail
  clear hU hsz c4 f4 t2
  have X1 := Lib.hid (blk_far G1.out (p := ⟨w.heap.size + 1 + 1, 4, none⟩) (show w.heap.size + 1 ≠ w.heap.size + 1 + 1 by omega) (.int .i64 (n : Int)))
  have X2 := Lib.hid (blk_set G2.out 4 (.int .i64 (n : Int)))
  have XW := Lib.hid (below_set GB.out (show w.heap.size ≤ w.heap.size + 1 + 1 by omega) (j := 4) (v := .int .i64 (n : Int)))
  generalize W1.setCell ⟨w.heap.size + 1 + 1, 4, none⟩ (.int .i64 (n : Int)) = X at X1 X2 XW ⊢
  clear G1 G2 GB W1 W0
  have X2' := X2.out
  simp only [List.setIfInBounds_toArray, List.set_cons_succ, List.set_cons_zero] at X2'
  have d0 := fun q : XB.In (Below X.heap.size X) => (blk_cell (blk_same X2' q.h) 0).trans rfl
  have d1 := fun q : XB.In (Below X.heap.size X) => (blk_cell (blk_same X2' q.h) 1).trans rfl
  have d2 := fun q : XB.In (Below X.heap.size X) => (blk_cell (blk_same X2' q.h) 2).trans rfl
  have d3 := fun q : XB.In (Below X.heap.size X) => (blk_cell (blk_same X2' q.h) 3).trans rfl
  have d4 := fun q : XB.In (Below X.heap.size X) => (blk_cell (blk_same X2' q.h) 4).trans rfl
  have HM2 := Lib.hid (fun (W : World) (h : Below X.heap.size X W) => HM.out W (XW.out.trans (h.mono XW.out.size)))
  clear X2' HM
  have e1 : decide (sq + 1 ≤ 1099511627776) = true := decide_eq_true hq1
  have HO := am (below_drew1 (Below.refl X.heap.size X))
  have Y1 := am (Go.Proofs.YtcfinlmocgbnbaaW.PrintWords.bkD X1.out)
  have Y2 : Aside0 (X.drew.heap[w.heap.size + 1 + 1]? = some (.cells #[.slice A0 su.length c0, .slice A1 0 c1, .int .i64 (sq + 1), .int .i64 (half : Int), .int .i64 (n : Int)] 89 (0, 0))) := am (Go.Proofs.YtcfinlmocgbnbaaW.PrintWords.bkD X2.out)
  clear d0 d1 d2 d3 d4
  refine start_ (n := 17) (S := fun w' => w'.cell? ⟨w.heap.size + 1 + 1, 0, none⟩ = some (.slice A0 su.length c0) ∧ w'.cell? ⟨w.heap.size + 1 + 1, 1, none⟩ = some (.slice A1 0 c1) ∧ w'.cell? ⟨w.heap.size + 1 + 1, 2, none⟩ = some (.int .i64 (sq + 1)) ∧ w'.cell? ⟨w.heap.size + 1 + 1, 3, none⟩ = some (.int .i64 (half : Int)) ∧ w'.cell? ⟨w.heap.size + 1 + 1, 4, none⟩ = some (.int .i64 (n : Int))) (ds := []) #[false, false, false, false, false, false, false, false, false, false, false, false, false, false, false, false, false] (by kernel_rfl) rfl rfl (bc5 Y2) (fun hHeld => ?_); refine with_tabW vnext.tab8 vnext.bits8 (fun HT_ HW_ => ?_)
  generalize X.drew = w0 at HO Y1 Y2 hHeld ⊢
  refine tk_ 0 (some 34) HT_ HW_ rfl rfl (.inl ⟨by rfl, by rintro w' ⟨s0, s1, s2, s3, s4⟩; go_simp; with_reducible rfl⟩) hHeld (by simp only [Act.put, sa_, s0_, s1_, i64_w, i32_w]; rfl) ?_
  refine pu_ 1 (some 35) HT_ rfl rfl (.inl ⟨by rfl, by intro w'; go_simp; with_reducible rfl⟩) (by simp only [Act.put, sa_, s0_, s1_, i64_w, i32_w]; rfl) ?_
  refine pu_ 2 (some 36) HT_ rfl rfl (.inl ⟨by rfl, by intro w'; go_simp; with_reducible rfl⟩) (by simp only [Act.put, sa_, s0_, s1_, i64_w, i32_w]; rfl) ?_
  refine pu_ 3 (some 37) HT_ rfl rfl (.inl ⟨by rfl, by intro w'; go_simp; with_reducible rfl⟩) (by simp only [Act.put, sa_, s0_, s1_, i64_w, i32_w]; rfl) ?_
  refine tk_ 4 (some 38) HT_ HW_ rfl rfl (.inl ⟨by rfl, by rintro w' ⟨s0, s1, s2, s3, s4⟩; go_simp; with_reducible rfl⟩) hHeld (by simp only [Act.put, sa_, s0_, s1_, i64_w, i32_w]; rfl) ?_
  refine pu_ 5 (some 39) HT_ rfl rfl (.inl ⟨by rfl, by intro w'; go_simp; with_reducible rfl⟩) (by simp only [Act.put, sa_, s0_, s1_, i64_w, i32_w]; rfl) ?_
  refine pu_ 6 (some 40) HT_ rfl rfl (.inl ⟨by rfl, by intro w'; go_simp; with_reducible rfl⟩) (by simp only [Act.put, sa_, s0_, s1_, i64_w, i32_w]; rfl) ?_
  refine pu_ 7 (some 41) HT_ rfl rfl (.inl ⟨by rfl, by intro w'; go_simp; with_reducible rfl⟩) (by simp only [Act.put, sa_, s0_, s1_, i64_w, i32_w]; rfl) ?_
  refine pu_ 8 (some 42) HT_ rfl rfl (.inl ⟨by rfl, by intro w'; go_simp; with_reducible rfl⟩) (by simp only [Act.put, sa_, s0_, s1_, i64_w, i32_w]; rfl) ?_
  refine tk_ 9 (some 43) HT_ HW_ rfl rfl (.inl ⟨by rfl, by rintro w' ⟨s0, s1, s2, s3, s4⟩; go_simp; with_reducible rfl⟩) hHeld (by simp only [Act.put, sa_, s0_, s1_, i64_w, i32_w]; rfl) ?_
  refine tk_ 10 (some 44) HT_ HW_ rfl rfl (.inl ⟨by rfl, by rintro w' ⟨s0, s1, s2, s3, s4⟩; go_simp; with_reducible rfl⟩) hHeld (by simp only [Act.put, sa_, s0_, s1_, i64_w, i32_w]; rfl) ?_
  refine on_ 11 (some 45) HT_ rfl rfl (fun K hK => ?_)
  refine goes_ Try.func58 (by kernel_rfl) rfl #[.agg #[.slice A0 su.length c0, .slice A1 0 c1, .int .i64 (sq + 1), .int .i64 (half : Int), .int .i64 (n : Int)]] (by rfl) rfl rfl (by (try simp only [List.map_toArray, List.map_cons, List.map_nil]) <;> rfl) ?_
  refine (HM2.out _ HO.out).mono ?_
  rintro e W5 ⟨rfl, hb⟩
  refine ⟨_, rfl, ?_⟩
  have m0_ := am (below_step HO.out hb); have m1_ := am (blk_same Y1.out hb); have m2_ := am (blk_same Y2.out hb); clear HO Y1 Y2 hb; have HO := m0_; have Y1 := m1_; have Y2 := m2_; clear m0_ m1_ m2_
  refine hK.out _ _ (bc5 Y2) (fun hHeld => ?_)
  clear hK K
  refine norm_ (by show Act.put _ (some 45) _ = _; simp only [Act.put, sa_, s0_, s1_, i64_w, i32_w]; rfl) ?_
  refine pu_ 12 (some 46) HT_ rfl rfl (.inl ⟨by rfl, by intro w'; go_simp; with_reducible rfl⟩) (by simp only [Act.put, sa_, s0_, s1_, i64_w, i32_w]; rfl) ?_
  refine pu_ 13 (some 47) HT_ rfl rfl (.inl ⟨by rfl, by intro w'; go_simp; with_reducible rfl⟩) (by simp only [Act.put, sa_, s0_, s1_, i64_w, i32_w]; rfl) ?_
  refine on_ 14 none HT_ rfl rfl (fun K hK => ?_)
  have hc0 := (blk_cell Y1.out 0).trans rfl; have hf0 := blk_frozen Y1.out 0
  have hc1 := (blk_cell Y1.out 1).trans rfl; have hf1 := blk_frozen Y1.out 1
  have hc2 := (blk_cell Y1.out 2).trans rfl; have hf2 := blk_frozen Y1.out 2
  have hc3 := (blk_cell Y1.out 3).trans rfl; have hf3 := blk_frozen Y1.out 3
  have hc4 := (blk_cell Y1.out 4).trans rfl; have hf4 := blk_frozen Y1.out 4
  refine skip_ (by rfl) rfl (by go_simp; rfl) ?_
  clear hc0 hc1 hc2 hc3 hc4 hf0 hf1 hf2 hf3 hf4
  have k2 := br5 (i0 := 0) (i1 := 1) (i2 := 2) (i3 := 3) (i4 := 4) (a := .slice A0 su.length c0) (b := .slice A1 0 c1) (c := .int .i64 (sq + 1)) (d := .int .i64 (half : Int)) (e := .int .i64 (n : Int)) Y2.out (am (show w.heap.size + 1 + 1 ≠ w.heap.size + 1 by omega))
  have k1 := bp5 (a' := .slice A0 su.length c0) (b' := .slice A1 0 c1) (c' := .int .i64 (sq + 1)) (d' := .int .i64 (half : Int)) (e' := .int .i64 (n : Int)) Y1.out
  refine hK.out _ _ (bc5 (am k2)) (fun hHeld => ?_)
  clear hK K
  refine pu_ 15 (some 7) HT_ rfl rfl (.inl ⟨by rfl, by intro w'; go_simp; with_reducible rfl⟩) (by simp only [Act.put, sa_, s0_, s1_, i64_w, i32_w]; rfl) ?_
  refine pu_ 16 (some 8) HT_ rfl rfl (.inl ⟨by rfl, by intro w'; go_simp; with_reducible rfl⟩) (by simp only [Act.put, sa_, s0_, s1_, i64_w, i32_w]; rfl) ?_
  refine done_ (done_of HT_.out (by kernel_rfl)) ?_
  go_wp2
  exact bodyPost_ret (XB.resultsX_list (rs := [.cell 6 89, .tmp 7, .tmp 8]) rfl (by simp) (.cell (w.heap.size + 1) 89 #[.slice A0 su.length c0, .slice A1 0 c1, .int .i64 (sq + 1), .int .i64 (half : Int), .int .i64 (n : Int)] (0, 0) _ rfl k1 Try.underlying89 rfl (by kernel_rfl) (.tmp (.tmp .nil)))) rfl ⟨rfl, below_set (below_set (below_set (below_set (below_set (XW.out.trans (HO.out.mono XW.out.size)) (by omega)) (by omega)) (by omega)) (by omega)) (by omega)⟩
set_option maxHeartbeats 4000000 in
theorem vnext_new {su : List ByteArray} {A0 A1 : Option Addr} {c0 c1 half half2 ln : Nat} {sq rm : Int} {U : ByteArray} {n : Nat} (hsz : U.size = n) (hh : half + half2 = 1) (w : World)
    (hsu : Kd.C Kd.string w A0 su.length su) (hc0 : su.length ≤ c0) (hso : Kd.C k24 w A1 0 ([] : List S24)) (hq0 : 0 ≤ sq) (hq1 : sq + 1 ≤ 1099511627776) (hT : n ≤ 1000000)
    (hrm : vault_book_room.f su [] (sq + 1) half2 (n : Int) = some rm) :
    Calls Try.prog 59 #[.agg #[.slice A0 su.length c0, .slice A1 0 c1, .int .i64 sq, .int .i64 (half : Int), .int .i64 (ln : Int)], .string U, .bool true] w fun e w' =>
      e = .returned (.tuple #[.agg #[.slice A0 su.length c0, .slice A1 0 c1, .int .i64 (sq + 1), .int .i64 (half2 : Int), .int .i64 (n : Int)], .string U, .bool (decide ((n : Int) ≤ rm))]) ∧ Below w.heap.size w w' := by
  have he : (1 : Int) - (half : Int) = (half2 : Int) := by omega
  have HM := Lib.hid (show ∀ W, Below w.heap.size w W → Calls Try.prog 58 #[.agg #[.slice A0 su.length c0, .slice A1 0 c1, .int .i64 (sq + 1), .int .i64 (half2 : Int), .int .i64 (n : Int)]] W fun e w' => e = .returned (.int .i64 rm) ∧ Below W.heap.size W w' from fun W h => vault_book_room.calls _ _ su _ c1 [] _ _ _ rm W (Kd.C_below hsu h) hc0 (Kd.C_below hso h) (Nat.zero_le _) hrm)
  have HSZ := Lib.hid hsz
  clear hsz hsu hso hrm
  go_enter Try.func59, Try.ntmps59
  have hsz := HSZ.out
  go_wp2_with fail
  clear hsz he
  generalize hX : World.alloc (World.alloc (World.alloc w _) _) _ = X
  have X1 := Lib.hid (show X.heap[w.heap.size + 1]? = some (.cells #[.slice none 0 0, .slice none 0 0, .int .i64 0, .int .i64 0, .int .i64 0] 89 (0, 0)) by rw [← hX]; exact (boxes3 w _ _ _).2.1)
  have X2 := Lib.hid (show X.heap[w.heap.size + 1 + 1]? = some (.cells #[.slice A0 su.length c0, .slice A1 0 c1, .int .i64 (sq + 1), .int .i64 (half2 : Int), .int .i64 (n : Int)] 89 (0, 0)) by rw [← hX]; exact (boxes3 w _ _ _).2.2)
  have XW := Lib.hid (show Below w.heap.size w X by rw [← hX]; exact below_alloc (below_alloc (below_alloc (Below.refl _ _) _) _) _)
  clear hX
  have HM2 := Lib.hid (fun (W : World) (h : Below X.heap.size X W) => HM.out W (XW.out.trans (h.mono XW.out.size)))
  clear HM
  have e1 : decide (sq + 1 ≤ 1099511627776) = true := decide_eq_true hq1
  have HO := am (below_drew1 (Below.refl X.heap.size X))
  have Y1 := am (Go.Proofs.YtcfinlmocgbnbaaW.PrintWords.bkD X1.out)
  have Y2 : Aside0 (X.drew.heap[w.heap.size + 1 + 1]? = some (.cells #[.slice A0 su.length c0, .slice A1 0 c1, .int .i64 (sq + 1), .int .i64 (half2 : Int), .int .i64 (n : Int)] 89 (0, 0))) := am (Go.Proofs.YtcfinlmocgbnbaaW.PrintWords.bkD X2.out)
  refine start_ (n := 17) (S := fun w' => w'.cell? ⟨w.heap.size + 1 + 1, 0, none⟩ = some (.slice A0 su.length c0) ∧ w'.cell? ⟨w.heap.size + 1 + 1, 1, none⟩ = some (.slice A1 0 c1) ∧ w'.cell? ⟨w.heap.size + 1 + 1, 2, none⟩ = some (.int .i64 (sq + 1)) ∧ w'.cell? ⟨w.heap.size + 1 + 1, 3, none⟩ = some (.int .i64 (half2 : Int)) ∧ w'.cell? ⟨w.heap.size + 1 + 1, 4, none⟩ = some (.int .i64 (n : Int))) (ds := []) #[false, false, false, false, false, false, false, false, false, false, false, false, false, false, false, false, false] (by kernel_rfl) rfl rfl (bc5 Y2) (fun hHeld => ?_); refine with_tabW vnext.tab8 vnext.bits8 (fun HT_ HW_ => ?_)
  generalize X.drew = w0 at HO Y1 Y2 hHeld ⊢
  refine tk_ 0 (some 34) HT_ HW_ rfl rfl (.inl ⟨by rfl, by rintro w' ⟨s0, s1, s2, s3, s4⟩; go_simp; with_reducible rfl⟩) hHeld (by simp only [Act.put, sa_, s0_, s1_, i64_w, i32_w]; rfl) ?_
  refine pu_ 1 (some 35) HT_ rfl rfl (.inl ⟨by rfl, by intro w'; go_simp; with_reducible rfl⟩) (by simp only [Act.put, sa_, s0_, s1_, i64_w, i32_w]; rfl) ?_
  refine pu_ 2 (some 36) HT_ rfl rfl (.inl ⟨by rfl, by intro w'; go_simp; with_reducible rfl⟩) (by simp only [Act.put, sa_, s0_, s1_, i64_w, i32_w]; rfl) ?_
  refine pu_ 3 (some 37) HT_ rfl rfl (.inl ⟨by rfl, by intro w'; go_simp; with_reducible rfl⟩) (by simp only [Act.put, sa_, s0_, s1_, i64_w, i32_w]; rfl) ?_
  refine tk_ 4 (some 38) HT_ HW_ rfl rfl (.inl ⟨by rfl, by rintro w' ⟨s0, s1, s2, s3, s4⟩; go_simp; with_reducible rfl⟩) hHeld (by simp only [Act.put, sa_, s0_, s1_, i64_w, i32_w]; rfl) ?_
  refine pu_ 5 (some 39) HT_ rfl rfl (.inl ⟨by rfl, by intro w'; go_simp; with_reducible rfl⟩) (by simp only [Act.put, sa_, s0_, s1_, i64_w, i32_w]; rfl) ?_
  refine pu_ 6 (some 40) HT_ rfl rfl (.inl ⟨by rfl, by intro w'; go_simp; with_reducible rfl⟩) (by simp only [Act.put, sa_, s0_, s1_, i64_w, i32_w]; rfl) ?_
  refine pu_ 7 (some 41) HT_ rfl rfl (.inl ⟨by rfl, by intro w'; go_simp; with_reducible rfl⟩) (by simp only [Act.put, sa_, s0_, s1_, i64_w, i32_w]; rfl) ?_
  refine pu_ 8 (some 42) HT_ rfl rfl (.inl ⟨by rfl, by intro w'; go_simp; with_reducible rfl⟩) (by simp only [Act.put, sa_, s0_, s1_, i64_w, i32_w]; rfl) ?_
  refine tk_ 9 (some 43) HT_ HW_ rfl rfl (.inl ⟨by rfl, by rintro w' ⟨s0, s1, s2, s3, s4⟩; go_simp; with_reducible rfl⟩) hHeld (by simp only [Act.put, sa_, s0_, s1_, i64_w, i32_w]; rfl) ?_
  refine tk_ 10 (some 44) HT_ HW_ rfl rfl (.inl ⟨by rfl, by rintro w' ⟨s0, s1, s2, s3, s4⟩; go_simp; with_reducible rfl⟩) hHeld (by simp only [Act.put, sa_, s0_, s1_, i64_w, i32_w]; rfl) ?_
  refine on_ 11 (some 45) HT_ rfl rfl (fun K hK => ?_)
  refine goes_ Try.func58 (by kernel_rfl) rfl #[.agg #[.slice A0 su.length c0, .slice A1 0 c1, .int .i64 (sq + 1), .int .i64 (half2 : Int), .int .i64 (n : Int)]] (by rfl) rfl rfl (by (try simp only [List.map_toArray, List.map_cons, List.map_nil]) <;> rfl) ?_
  refine (HM2.out _ HO.out).mono ?_
  rintro e W5 ⟨rfl, hb⟩
  refine ⟨_, rfl, ?_⟩
  have m0_ := am (below_step HO.out hb); have m1_ := am (blk_same Y1.out hb); have m2_ := am (blk_same Y2.out hb); clear HO Y1 Y2 hb; have HO := m0_; have Y1 := m1_; have Y2 := m2_; clear m0_ m1_ m2_
  refine hK.out _ _ (bc5 Y2) (fun hHeld => ?_)
  clear hK K
  refine norm_ (by show Act.put _ (some 45) _ = _; simp only [Act.put, sa_, s0_, s1_, i64_w, i32_w]; rfl) ?_
  refine pu_ 12 (some 46) HT_ rfl rfl (.inl ⟨by rfl, by intro w'; go_simp; with_reducible rfl⟩) (by simp only [Act.put, sa_, s0_, s1_, i64_w, i32_w]; rfl) ?_
  refine pu_ 13 (some 47) HT_ rfl rfl (.inl ⟨by rfl, by intro w'; go_simp; with_reducible rfl⟩) (by simp only [Act.put, sa_, s0_, s1_, i64_w, i32_w]; rfl) ?_
  refine on_ 14 none HT_ rfl rfl (fun K hK => ?_)
  have hc0 := (blk_cell Y1.out 0).trans rfl; have hf0 := blk_frozen Y1.out 0
  have hc1 := (blk_cell Y1.out 1).trans rfl; have hf1 := blk_frozen Y1.out 1
  have hc2 := (blk_cell Y1.out 2).trans rfl; have hf2 := blk_frozen Y1.out 2
  have hc3 := (blk_cell Y1.out 3).trans rfl; have hf3 := blk_frozen Y1.out 3
  have hc4 := (blk_cell Y1.out 4).trans rfl; have hf4 := blk_frozen Y1.out 4
  refine skip_ (by rfl) rfl (by go_simp; rfl) ?_
  clear hc0 hc1 hc2 hc3 hc4 hf0 hf1 hf2 hf3 hf4
  have k2 := br5 (i0 := 0) (i1 := 1) (i2 := 2) (i3 := 3) (i4 := 4) (a := .slice A0 su.length c0) (b := .slice A1 0 c1) (c := .int .i64 (sq + 1)) (d := .int .i64 (half2 : Int)) (e := .int .i64 (n : Int)) Y2.out (am (show w.heap.size + 1 + 1 ≠ w.heap.size + 1 by omega))
  have k1 := bp5 (a' := .slice A0 su.length c0) (b' := .slice A1 0 c1) (c' := .int .i64 (sq + 1)) (d' := .int .i64 (half2 : Int)) (e' := .int .i64 (n : Int)) Y1.out
  refine hK.out _ _ (bc5 (am k2)) (fun hHeld => ?_)
  clear hK K
  refine pu_ 15 (some 7) HT_ rfl rfl (.inl ⟨by rfl, by intro w'; go_simp; with_reducible rfl⟩) (by simp only [Act.put, sa_, s0_, s1_, i64_w, i32_w]; rfl) ?_
  refine pu_ 16 (some 8) HT_ rfl rfl (.inl ⟨by rfl, by intro w'; go_simp; with_reducible rfl⟩) (by simp only [Act.put, sa_, s0_, s1_, i64_w, i32_w]; rfl) ?_
  refine done_ (done_of HT_.out (by kernel_rfl)) ?_
  go_wp2
  exact bodyPost_ret (XB.resultsX_list (rs := [.cell 6 89, .tmp 7, .tmp 8]) rfl (by simp) (.cell (w.heap.size + 1) 89 #[.slice A0 su.length c0, .slice A1 0 c1, .int .i64 (sq + 1), .int .i64 (half2 : Int), .int .i64 (n : Int)] (0, 0) _ rfl k1 Try.underlying89 rfl (by kernel_rfl) (.tmp (.tmp .nil)))) rfl ⟨rfl, below_set (below_set (below_set (below_set (below_set (XW.out.trans (HO.out.mono XW.out.size)) (by omega)) (by omega)) (by omega)) (by omega)) (by omega)⟩
end Go.Proofs.Ytcfinlmocgbnbaa.Pr
end
section
namespace Go.Proofs.Ytcfinlmocgbnbaa.Pr
open Go.RowKit Go.Proofs.Ytcfinlmocgbnbaa.XB Go.Proofs.YtcfinlmocgbnbaaW.PrintWords
set_option linter.unusedVariables false
def leftK (all : ByteArray) (k : Nat) : ByteArray := all.extract (64 * k) all.size
def sizeK (n k : Nat) : Nat := min (n - 64 * k) 64
def sameK (same : Int) (k : Nat) : Int := max (same - 64 * (k : Int)) 0
def mvK (su : List ByteArray) (all : ByteArray) (same : Int) (at_ k : Nat) : List S24 :=
  if 0 < sizeK all.size k ∧ sameK same k < (sizeK all.size k : Int) then [⟨false, ((at_ + k : Nat) : Int), (leftK all k).extract 0 (sizeK all.size k) ++ (rdOf ByteArray.empty su ((at_ + k : Nat) : Int)).extract (sizeK all.size k) 64⟩] else []
def mvU (su : List ByteArray) (all : ByteArray) (same : Int) (at_ : Nat) : Nat → List S24
  | 0 => []
  | k + 1 => mvU su all same at_ k ++ mvK su all same at_ k
theorem left_zero (all : ByteArray) : leftK all 0 = all := by unfold leftK; simp
theorem left_size (all : ByteArray) (k : Nat) : (leftK all k).size = all.size - 64 * k := by unfold leftK; rw [ByteArray.size_extract]; omega
theorem left_next (all : ByteArray) (k : Nat) : (leftK all k).extract (sizeK all.size k) (leftK all k).size = leftK all (k + 1) := by
  unfold sizeK
  have h := left_size all k
  unfold leftK at *
  rw [ByteArray.extract_extract, h]
  by_cases hk : 64 ≤ all.size - 64 * k
  · rw [show min (all.size - 64 * k) 64 = 64 by omega]
    congr 1 <;> omega
  · rw [show min (all.size - 64 * k) 64 = all.size - 64 * k by omega]
    have e1 : (all.extract (64 * k + (all.size - 64 * k)) (min (64 * k + (all.size - 64 * k)) all.size)).size = 0 := by rw [ByteArray.size_extract]; omega
    have e2 : (all.extract (64 * (k + 1)) all.size).size = 0 := by rw [ByteArray.size_extract]; omega
    rw [ByteArray.size_eq_zero_iff] at e1 e2
    rw [e2]
    first | exact e1 | (rw [← e1]; congr 1; omega)
theorem same_zero {same : Int} (h : 0 ≤ same) : sameK same 0 = same := by unfold sameK; omega
theorem same_next {same : Int} (k : Nat) : max (sameK same k - 64) 0 = sameK same (k + 1) := by unfold sameK; omega
theorem same_range {same : Int} (h : 0 ≤ same) (h1 : same ≤ 1000000) (k : Nat) : 0 ≤ sameK same k ∧ sameK same k ≤ 1000000 := by unfold sameK; omega
theorem mvU_len (su : List ByteArray) (all : ByteArray) (same : Int) (at_ : Nat) : ∀ k, (mvU su all same at_ k).length ≤ k
  | 0 => by simp [mvU]
  | k + 1 => by
    have := mvU_len su all same at_ k
    have h : (mvK su all same at_ k).length ≤ 1 := by unfold mvK; split <;> simp
    simp only [mvU, List.length_append]
    omega
end Go.Proofs.Ytcfinlmocgbnbaa.Pr
end
section
set_option linter.unusedVariables false
namespace Go.Proofs.Ytcfinlmocgbnbaa.XB
open Go.RowKit Go.Proofs.YtcfinlmocgbnbaaW.PrintWords Go.Proofs.YtcfinlmocgbnbaaW.PrintLast
variable {P : Program} {ops : Array Oper} {md : Region.Mode} {l n : Nat} {Q : Exit → Act → World → Prop}
theorem op_round {o : Oper} {a : Act} {K : Act → World → Prop} {w : World} (hd : ∀ c, o.op ≠ .defer c) (h : o.wp P a w K Q) : o.wpIn (Fence.wide.inRound l) n P a w K Q := by
  refine ⟨fun _ _ => trivial, ?_⟩
  show o.uponIn (Fence.wide.inRound l) n P a K Q ((o.semAt (some l) a.eval).run P w)
  rw [Oper.semAt_some l _ _ hd]
  unfold Oper.wp at h
  generalize (execOp a.eval o).run P w = r at *
  cases r with
  | ok m w' =>
    cases m <;> simp only [Oper.upon] at h
    case value u => exact h
    case skip => exact h
    case defer d => exact h
    case enter f args => exact ⟨fun hx => (by cases hx), CallsIn.inRound l (callsIn_wide.2 h)⟩
    case row r args => exact ⟨fun hx => (by cases hx), fun c cs _ => let ⟨v, w', q, s⟩ := h c cs; ⟨v, w', q, stepsIn_wide.2 s⟩⟩
  | halt x w' => cases x <;> simp only [Oper.upon] at h <;> exact h
theorem any_round (hd : noDefer ops = true) (hno : ¬ LetsOut Q) : ∀ (fuel : Nat) (up : Array Bool) (a : Act) (w : World), wpAny P md ops Q fuel up a w → wpAnyIn (Fence.wide.inRound l) n P md ops Q fuel up a w
  | 0, _, _, _, h => h
  | fuel + 1, up, a, w, h => by
    refine ⟨h.1, fun i hi => ?_⟩
    have h2 := h.2 i hi
    unfold wpOp at h2
    unfold wpOpIn
    split
    · rename_i ho
      simp only [ho] at h2
      exact any_round hd hno fuel _ a w h2
    · rename_i o ho
      simp only [ho] at h2
      split
      · rename_i hw
        simp only [hw, if_true] at h2
        rcases h2 with h2 | ⟨_, h2⟩
        · exact op_round (noDefer_spec hd ho) (Oper.wp_mono (fun a' w' h3 => any_round hd hno fuel _ a' w' h3) h2)
        · exact absurd h2 hno
      · rename_i hw
        simp only [hw] at h2
        exact ⟨fun _ _ => trivial, any_round hd hno fuel _ _ w h2⟩
theorem round_start {S : World → Prop} {ds : List Nat} {id m : Nat} {a : Act} {w : World} (L : Array Bool) (hm : P.follows .mixedOrders = true) (hn : ops.size = m) (hl : Array.replicate m false = L) (hd : noDefer ops = true) (hno : ¬ LetsOut Q) (hS : S w.drew)
    (h : S w.drew → wpAnyLast P .any ops Q S ds m L a w.drew) : (Code.region id ops true).wpIn (Fence.wide.inRound l) n P Q a w := by
  subst hn
  subst hl
  exact wpIn_region_any hm (any_round hd hno _ _ _ _ (wpAny_of_last _ _ _ _ (h hS)))
end Go.Proofs.Ytcfinlmocgbnbaa.XB
end
section
namespace Go.Proofs.Ytcfinlmocgbnbaa.Pr
open Go.Proofs.Ytcfinlmocgbnbaa.Sq Go.RowKit Go.Shelf Go.Proofs.Ytcfinlmocgbnbaa.XB Go.Proofs.YtcfinlmocgbnbaaW.PrintWords Go.Proofs.YtcfinlmocgbnbaaW.PrintLast Go.Proofs.YtcfinlmocgbnbaaW.PrintMore
attribute [local go_sem] Oper.semAt_some
set_option linter.unusedVariables false
set_option linter.unusedSimpArgs false
set_option maxRecDepth 100000
theorem vblocks_at {A0 A1 : Option Addr} {n0 c0 n1 c1 : Nat} {sq hf ln half : Int} (w : World) :
    Calls Try.prog 62 #[.agg #[.slice A0 n0 c0, .slice A1 n1 c1, .int .i64 sq, .int .i64 hf, .int .i64 ln], .int .i64 half] w fun e w' => ∃ g1 g2 : Nat, e = .returned (.func (.func 81) #[] #[.pointer (some ⟨g1, 0, none⟩), .pointer (some ⟨g2, 0, none⟩)]) ∧ w.heap.size ≤ g1 ∧ w.heap.size ≤ g2 ∧
      w'.heap[g1]? = some (.cells #[.slice A0 n0 c0, .slice A1 n1 c1, .int .i64 sq, .int .i64 hf, .int .i64 ln] 89 (0, 0)) ∧ w'.heap[g2]? = some (.cells #[.int .i64 half] 3 (0, 0)) ∧ Below w.heap.size w w' := by
  go_enter Try.func62, Try.ntmps62
  go_wp2
  go_ret
  exact ⟨_, _, rfl, Nat.le_refl _, by simp, bkA (heap_alloc_new w _) _, heap_alloc2_new w _ _, below_alloc (below_alloc (Below.refl _ _) _) _⟩
theorem put10_ {w : World} {g : Nat} {t : TypeId} {a : Value} (h : w.heap[g]? = some (.cells #[a] t (0, 0))) (v : Value) : (w.setCell ⟨g, 0, none⟩ v).heap[g]? = some (.cells #[v] t (0, 0)) := blk_set h 0 v
theorem keeps_grown {B : Nat} {W w1 : World} {row : Option Nat} (hg : W.grownBy w1 row) (hr : ∀ r, row = some r → ∃ cs t fr, W.heap[r]? = some (.cells cs t fr)) : KeepsFrom B W w1 :=
  ⟨hg.size, fun k o _ hk hc => (hg.block k (Go.Proofs.YtcfinlmocgbnbaaW.PrintWords.blk_lt hk) (fun e => by obtain ⟨cs, t, fr, q⟩ := hr k e.symm; rw [q] at hk; cases hk; cases hc)).trans hk⟩
def MI (w : World) (b6 b8 b11 b12 g1 g2 : Nat) (cs cs2 : Array Value) (su : List ByteArray) (all : ByteArray) (same : Int) (at_ k : Nat) (W : World) : Prop :=
  VF w g1 g2 cs cs2 W ∧ W.heap[b8]? = some (.cells cs 89 (0, 0)) ∧ W.heap[b11]? = some (.cells #[.string (leftK all k)] 9 (0, 0)) ∧ W.heap[b12]? = some (.cells #[.int .i64 (sameK same k)] 3 (0, 0)) ∧
    ∃ v, W.heap[b6]? = some (.cells #[v] 28 (0, 0)) ∧ Kd.R k24 24 W w.heap.size (fun _ => True) v (mvU su all same at_ k)
section
variable {w : World} {b6 b8 b11 b12 g1 g2 : Nat} {cs cs2 : Array Value} {su : List ByteArray} {all : ByteArray} {same : Int} {at_ k : Nat}
theorem MI.own {B : Nat} (hB : w.heap.size ≤ B) : OwnW B (MI w b6 b8 b11 b12 g1 g2 cs cs2 su all same at_ k) :=
  .and (VF.own hB) (.and (.blk _ _ _ _) (.and (.blk _ _ _ _) (.and (.blk _ _ _ _) (.ex fun v => .and (.blk _ _ _ _) (.row _ _ _ _ _ _)))))
theorem MI.below {A B : World} (h : MI w b6 b8 b11 b12 g1 g2 cs cs2 su all same at_ k A) (hb : Below A.heap.size A B) : MI w b6 b8 b11 b12 g1 g2 cs cs2 su all same at_ k B := by
  obtain ⟨h1, h2, h3, h4, v, h5, h6⟩ := h
  exact ⟨h1.below hb, blk_same h2 hb, blk_same h3 hb, blk_same h4 hb, v, blk_same h5 hb, Kd.R_below h6 hb⟩
end
theorem R_put {α : Type} {d : Kd α} {e base : Nat} {ok : Nat → Prop} {v : Value} {xs : List α} {w : World} {g : Nat} {t : TypeId} {cs : Array Value} (h : d.R e w base ok v xs) (b : w.heap[g]? = some (.cells cs t (0, 0))) (ht : ∀ q, q ∈ e :: d.E → q ≠ t) (u : Value) : d.R e (w.setCell ⟨g, 0, none⟩ u) base ok v xs :=
  Kd.R_mono (rf1 (Kd.R_types h b ht) (fun _ hk => hk.2)) (fun _ h_ => h_.1)
theorem round_end {w : World} {b6 b8 b11 b12 g1 g2 B : Nat} {cs cs2 : Array Value} {su : List ByteArray} {all x L2 : ByteArray} {same y sm2 : Int} {at_ k : Nat} {U2 : List S24} {v : Value} {W Y Y9 : World}
    (n1 : b8 ≠ b11) (n2 : b8 ≠ b12) (n3 : b6 ≠ b11) (n4 : b6 ≠ b12) (n5 : b11 ≠ b12) (m1 : g1 ≠ b11) (m2 : g1 ≠ b12) (m3 : g2 ≠ b11) (m4 : g2 ≠ b12) (l1 : w.heap.size ≤ b11) (l2 : w.heap.size ≤ b12)
    (hK : KeepsFrom B W Y) (hV : VK w g1 g2 cs cs2 W Y) (hF : VF w g1 g2 cs cs2 W) (h8 : Y.heap[b8]? = some (.cells cs 89 (0, 0))) (h11 : Y.heap[b11]? = some (.cells #[.string x] 9 (0, 0))) (h12 : Y.heap[b12]? = some (.cells #[.int .i64 y] 3 (0, 0))) (h6 : Y.heap[b6]? = some (.cells #[v] 28 (0, 0))) (hR : Kd.R k24 24 Y w.heap.size (fun _ => True) v U2)
    (hb : Below Y.heap.size Y Y9) (eL : leftK all (k + 1) = L2) (eS : sameK same (k + 1) = sm2) (eU : mvU su all same at_ (k + 1) = U2) :
    KeepsFrom B W ((Y9.setCell ⟨b11, 0, none⟩ (.string L2)).setCell ⟨b12, 0, none⟩ (.int .i64 sm2)) ∧ VK w g1 g2 cs cs2 W ((Y9.setCell ⟨b11, 0, none⟩ (.string L2)).setCell ⟨b12, 0, none⟩ (.int .i64 sm2)) ∧ MI w b6 b8 b11 b12 g1 g2 cs cs2 su all same at_ (k + 1) ((Y9.setCell ⟨b11, 0, none⟩ (.string L2)).setCell ⟨b12, 0, none⟩ (.int .i64 sm2)) := by
  have V : VK w g1 g2 cs cs2 W ((Y9.setCell ⟨b11, 0, none⟩ (.string L2)).setCell ⟨b12, 0, none⟩ (.int .i64 sm2)) := fun q => by
    obtain ⟨q1, q2, q3⟩ := (hV q).below hb
    exact ⟨blk_far (p := ⟨b12, 0, none⟩) (blk_far (p := ⟨b11, 0, none⟩) q1 m1 _) m2 _, blk_far (p := ⟨b12, 0, none⟩) (blk_far (p := ⟨b11, 0, none⟩) q2 m3 _) m4 _, below_set (below_set q3 l1) l2⟩
  have c11 := blk_same h11 hb
  have c12 := blk_far (p := ⟨b11, 0, none⟩) (blk_same h12 hb) (Ne.symm n5) (.string L2)
  refine ⟨keeps_set (keeps_set (hK.trans (keeps_below hb)) _ _) _ _, V, V hF, blk_far (p := ⟨b12, 0, none⟩) (blk_far (p := ⟨b11, 0, none⟩) (blk_same h8 hb) n1 _) n2 _, ?_, ?_, v, blk_far (p := ⟨b12, 0, none⟩) (blk_far (p := ⟨b11, 0, none⟩) (blk_same h6 hb) n3 _) n4 _, ?_⟩
  · rw [eL]; exact blk_far (p := ⟨b12, 0, none⟩) (put10_ c11 _) n5 _
  · rw [eS]; exact put10_ c12 _
  · rw [eU]; exact R_put (R_put (Kd.R_below hR hb) c11 (by decide) _) c12 (by decide) _
def vmv.T12 : Bool × List (List Nat × List Nat) := (true, [([], []), ([], []), ([], []), ([], []), ([2, 3], [2, 3]), ([], []), ([], []), ([5, 6], [5, 6]), ([4, 7], [4, 7]), ([1, 8], [1, 8]), ([9], [9]), ([0, 10], [0, 10]), ([11, 11, 0, 1, 2, 3, 4, 5, 6, 7, 8, 9, 10, 11], [11])])
def vmv.B12 : List Nat := [0, 0, 0, 0, 12, 0, 0, 96, 252, 510, 1022, 2047, 4095]
theorem vmv.tab12 : rtab .any (opsOf Try.f37 12) = vmv.T12 := by kernel_rfl
theorem vmv.bits12 : waitsOk vmv.T12.2 vmv.B12 = true := by kernel_rfl
def vmv.T13 : Bool × List (List Nat × List Nat) := (true, [([], []), ([], []), ([0, 1], [0, 1]), ([], []), ([3], [3]), ([4], [4]), ([2, 0, 1, 2], [2]), ([5, 6, 0, 1, 2, 3, 4, 5, 6], [5])])
def vmv.B13 : List Nat := [0, 0, 3, 0, 8, 24, 7, 127]
theorem vmv.tab13 : rtab .any (opsOf Try.f37 13) = vmv.T13 := by kernel_rfl
theorem vmv.bits13 : waitsOk vmv.T13.2 vmv.B13 = true := by kernel_rfl
def vmv.T15 : Bool × List (List Nat × List Nat) := (true, [([], []), ([], []), ([], []), ([1, 2], [1, 2]), ([], []), ([], []), ([], []), ([6, 2], [6]), ([5, 7], [5, 7]), ([], []), ([3, 4, 8, 9], [3, 4, 8, 9]), ([0, 10, 7], [0, 10]), ([11, 11, 0, 1, 2, 3, 4, 5, 6, 7, 8, 9, 10, 11], [11]), ([12, 0, 1, 2, 3, 4, 5, 6, 7, 8, 9, 10, 11, 12], [])])
def vmv.B15 : List Nat := [0, 0, 0, 6, 0, 0, 0, 68, 228, 0, 1022, 2047, 4095, 8191]
theorem vmv.tab15 : rtab .any (opsOf Try.f37 15) = vmv.T15 := by kernel_rfl
theorem vmv.bits15 : waitsOk vmv.T15.2 vmv.B15 = true := by kernel_rfl
set_option maxHeartbeats 8000000 in
theorem vmoves_calls (kh : Nat) {su : List ByteArray} {A0 A1 : Option Addr} {c0 c1 wd half n : Nat} {sq hf ln rm : Int} {s all hd : ByteArray} {ins : Bool} (w : World)
    (hsu : Kd.C Kd.string w A0 su.length su) (hc0 : su.length ≤ c0) (hso : Kd.C k24 w A1 0 ([] : List S24))
    (hR : ∀ W, Below w.heap.size w W → Calls Try.prog 36 #[.agg #[.slice A0 su.length c0, .slice A1 0 c1, .int .i64 sq, .int .i64 hf, .int .i64 ln]] W fun e w' => e = .returned (.bool true) ∧ Below W.heap.size W w')
    (hN : ∀ W, Below w.heap.size w W → Calls Try.prog 59 #[.agg #[.slice A0 su.length c0, .slice A1 0 c1, .int .i64 sq, .int .i64 hf, .int .i64 ln], .string s, .bool ins] W fun e w' => e = .returned (.tuple #[.agg #[.slice A0 su.length c0, .slice A1 0 c1, .int .i64 (sq + 1), .int .i64 (half : Int), .int .i64 (n : Int)], .string all, .bool true]) ∧ Below W.heap.size W w')
    (hal : all.size = n) (hsn : s.size ≤ n) (hn : n ≤ 1000000) (hw : vault_book_wide.f su [] (sq + 1) half n = some (wd : Int)) (hwd : 2 + 2 * wd ≤ su.length) (hl : su.length ≤ 1000) (hh : half ≤ 1) {p : Nat} (hp : half * wd = p)
    (hz : ∀ s ∈ su, s.size = 64) (hhd : vault_book_head.f kh su [] (sq + 1) half n = some hd) (hq0 : 0 ≤ sq) (hq1 : sq + 1 ≤ 1099511627776) :
    Calls Try.prog 37 #[.agg #[.slice A0 su.length c0, .slice A1 0 c1, .int .i64 sq, .int .i64 hf, .int .i64 ln], .string s, .bool ins] w fun e w' => ∃ v, e = .returned (.tuple #[v, .int .i64 0]) ∧ Kd.R k24 24 w' w.heap.size (fun _ => True) v (mvU su all ((n : Int) - (s.size : Int)) (2 + p) wd ++ [⟨false, (sq + 1).tmod 2, blank⟩, ⟨true, 0, ⟨#[]⟩⟩, ⟨false, (sq + 1).tmod 2, hd⟩, ⟨true, 0, ⟨#[]⟩⟩]) ∧ Below w.heap.size w w' := by
  have hp1 : p ≤ wd := by rw [← hp]; exact Nat.le_trans (Nat.mul_le_mul_right wd hh) (by omega)
  have HR := Lib.hid hR
  have HN := Lib.hid hN
  have HAL := Lib.hid hal
  have HH := Lib.hid (show ∀ W, Below w.heap.size w W → Calls Try.prog 56 #[.agg #[.slice A0 su.length c0, .slice A1 0 c1, .int .i64 (sq + 1), .int .i64 (half : Int), .int .i64 (n : Int)]] W fun e w' => e = .returned (.string hd) ∧ Below W.heap.size W w' from fun W h => vault_book_head.calls kh _ _ su _ c1 [] _ _ _ hd W (Kd.C_below hsu h) hc0 (Kd.C_below hso h) (Nat.zero_le _) hhd)
  clear hR hN hal hhd
  refine (callsIn_wide (n := 9)).1 (callsIn_of_wp_marks Try.func37 rfl trivial ?_ rfl)
  refine XB.QM_wp ?_
  simp only [Try.ntmps37, List.size_toArray, List.length_cons, List.length_nil, Nat.reduceAdd, Nat.reduceSub, Array.replicate_succ, Array.replicate_zero, List.push_toArray, List.append_toArray, List.nil_append, List.cons_append]
  go_wp2_with fail
  generalize hW0 : World.alloc (World.alloc w _) _ = W0
  have F3 : W0.heap[w.heap.size]? = some (.cells #[.slice A0 su.length c0, .slice A1 0 c1, .int .i64 sq, .int .i64 hf, .int .i64 ln] 56 (0, 0)) := by rw [← hW0]; exact heap_alloc2_old w _ _
  have F6 : W0.heap[w.heap.size + 1]? = some (.cells #[.slice none 0 0] 28 (0, 0)) := by rw [← hW0]; exact heap_alloc2_new w _ _
  have FB : Below w.heap.size w W0 := by rw [← hW0]; exact below_alloc (below_alloc (Below.refl _ _) _) _
  clear hW0
  refine (HR.out W0 FB).mono ?_
  rintro e W1 ⟨rfl, hb⟩
  have G3 := Lib.hid (blk_same F3 hb)
  have G6 := Lib.hid (blk_same F6 hb)
  have GB := Lib.hid (below_step FB hb)
  have c_0 := (blk_cell G3.out 0).trans rfl
  have c_1 := (blk_cell G3.out 1).trans rfl
  have c_2 := (blk_cell G3.out 2).trans rfl
  have c_3 := (blk_cell G3.out 3).trans rfl
  have c_4 := (blk_cell G3.out 4).trans rfl
  clear hb F3 F6 FB HR W0
  go_wp2_with fail
  refine (HN.out W1 GB.out).mono ?_
  rintro e W2 ⟨rfl, hb⟩
  have G6b := Lib.hid (blk_same G6.out hb)
  have GBb := Lib.hid (below_step GB.out hb)
  have hal := HAL.out
  clear hb c_0 c_1 c_2 c_3 c_4 G3 G6 GB W1 HN
  go_wp2_with fail
  obtain ⟨same, hsame⟩ : ∃ same : Int, (n : Int) - (s.size : Int) = same := ⟨_, rfl⟩
  have hs0 : 0 ≤ same := by omega
  have hs1 : same ≤ 1000000 := by omega
  generalize hX : World.alloc (World.alloc (World.alloc W2 _) _) _ = X
  have X6 : X.heap[w.heap.size + 1]? = some (.cells #[.slice none 0 0] 28 (0, 0)) := by rw [← hX]; exact bkA (bkA (bkA G6b.out _) _) _
  have X8 : X.heap[W2.heap.size]? = some (.cells #[.slice A0 su.length c0, .slice A1 0 c1, .int .i64 (sq + 1), .int .i64 (half : Int), .int .i64 (n : Int)] 89 (0, 0)) := by rw [← hX]; exact (boxes3 W2 _ _ _).1
  have X11 : X.heap[W2.heap.size + 1]? = some (.cells #[.string all] 9 (0, 0)) := by rw [← hX]; exact (boxes3 W2 _ _ _).2.1
  have X12 : X.heap[W2.heap.size + 1 + 1]? = some (.cells #[.int .i64 same] 3 (0, 0)) := by rw [← hX, ← hsame]; exact (boxes3 W2 _ _ _).2.2
  have XW : Below w.heap.size w X := by rw [← hX]; exact below_alloc (below_alloc (below_alloc GBb.out _) _) _
  have hlt6 : w.heap.size + 1 < W2.heap.size := Go.Proofs.YtcfinlmocgbnbaaW.PrintWords.blk_lt G6b.out
  clear hX G6b GBb
  refine (vblocks_at X).mono ?_
  rintro e W3 ⟨g1, g2, rfl, hg1, hg2, hb1, hb2, hbb⟩
  have Y6 := blk_same X6 hbb
  have Y8 := blk_same X8 hbb
  have Y11 := blk_same X11 hbb
  have Y12 := blk_same X12 hbb
  have YW := below_step XW hbb
  have hlt12 : W2.heap.size + 1 + 1 < X.heap.size := Go.Proofs.YtcfinlmocgbnbaaW.PrintWords.blk_lt X12
  have ng1 : g1 ≠ w.heap.size + 1 := by omega
  have ng2 : g2 ≠ w.heap.size + 1 := by omega
  have mg1 : g1 ≠ W2.heap.size + 1 := by omega
  have mg2 : g2 ≠ W2.heap.size + 1 := by omega
  have kg1 : g1 ≠ W2.heap.size + 1 + 1 := by omega
  have kg2 : g2 ≠ W2.heap.size + 1 + 1 := by omega
  clear hbb X6 X8 X11 X12 XW hg1 hg2 hlt12
  go_wp2_with fail
  have hU0 : Kd.R k24 24 W3 w.heap.size (fun _ => True) (.slice none 0 0) (mvU su all same (2 + p) 0) := Kd.R_nil k24 24 W3 w.heap.size (fun _ => True)
  refine wp_range2 (n := 9) (by omega) (gf := 81) (lb := #[.pointer (some ⟨g1, 0, none⟩), .pointer (some ⟨g2, 0, none⟩)]) rfl (enters_of Try.func81 (by kernel_rfl) rfl) (fun k => .int .i64 ((2 + p + k : Nat) : Int)) (fun k => .string (rdOf ByteArray.empty su ((2 + p + k : Nat) : Int))) wd
    (vblocks_seq2 8 (by omega) w g1 g2 hsu hc0 hso hw hwd hl hh hp) (VF.own YW.size) ⟨hb1, hb2, YW⟩ (fun A B h => keeps_below h) (fun h k q => k (h q)) (fun W l o o' h1 h2 h3 => VK.put YW.size W l o o' h1 h2 h3) (by simp) (by simp) (by decide) (by decide)
    (MI w (w.heap.size + 1) W2.heap.size (W2.heap.size + 1) (W2.heap.size + 1 + 1) g1 g2 #[.slice A0 su.length c0, .slice A1 0 c1, .int .i64 (sq + 1), .int .i64 (half : Int), .int .i64 (n : Int)] #[.int .i64 (half : Int)] su all same (2 + p)) (fun _ _ _ => False) (fun k => MI.own YW.size) (fun _ _ => .pure _) (fun k A B h ht => h.below ht) (fun _ _ _ _ h _ => h)
    ⟨⟨hb1, hb2, YW⟩, Y8, by rw [left_zero]; exact Y11, by rw [same_zero hs0]; exact Y12, _, Y6, hU0⟩ ?body ?done (fun _ _ _ _ _ _ h _ => h.elim)
  case done =>
    rintro D W hD ⟨hF, h8, h11, h12, v, h6, hRv⟩ hDD
    have hUl := mvU_len su all same (2 + p) wd
    obtain ⟨Av, cv, ev⟩ := Kd.R_slice hRv
    subst ev
    have HSM := Lib.hid hsame
    clear hb1 hb2 Y6 Y8 Y11 Y12 hU0 h11 h12 hsame
    generalize hUU : mvU su all same (2 + p) wd = U at *
    have HUU := Lib.hid hUU
    clear hUU
    obtain ⟨ta, hta⟩ : ∃ ta : Int, (sq + 1).tmod 2 = ta := ⟨_, rfl⟩
    have hta2 : (sq + 1) % 2 = ta := by rw [← hta]; exact (Int.tmod_eq_emod_of_nonneg (by omega)).symm
    have HTA := Lib.hid hta
    have c8_1 := (blk_cell h8 2).trans rfl
    have B6 := am h6
    have B8 := am h8
    have BF := am hF.2.2
    have BD := am hDD
    have BR := am hRv
    have HLU := am (show U.length ≤ 1000 by omega)
    have nD : D ≠ w.heap.size + 1 := by have := Go.Proofs.YtcfinlmocgbnbaaW.PrintWords.blk_lt B6.out; rintro rfl; rw [B6.out] at hDD; cases hDD
    clear hF h8 h6 hDD hRv hUl hw hsu hso hal HAL hz
    go_wp2_with fail
    obtain ⟨F4, hF4⟩ : ∃ F4 : List S24, F4 = [(⟨false, ta, blank⟩ : S24), (⟨true, 0, (⟨#[]⟩ : ByteArray)⟩ : S24), (⟨false, ta, hd⟩ : S24), (⟨true, 0, (⟨#[]⟩ : ByteArray)⟩ : S24)] := ⟨_, rfl⟩
    have HF4 := am hF4
    have F4L := am (show F4.length = 4 by rw [hF4]; rfl)
    clear hF4
    have m0_ := am (Go.Proofs.YtcfinlmocgbnbaaW.PrintWords.bkD B6.out); have m1_ := am (Go.Proofs.YtcfinlmocgbnbaaW.PrintWords.bkD B8.out); have m2_ := am (below_step BF.out (below_drew1 (Below.refl W.heap.size W))); have m3_ := am (Go.Proofs.YtcfinlmocgbnbaaW.PrintWords.bkD BD.out); have m4_ := am (Kd.R_drew BR.out); clear B6 B8 BF BD BR; have B6 := m0_; have B8 := m1_; have BF := m2_; have BD := m3_; have BR := m4_; clear m0_ m1_ m2_ m3_ m4_
    refine start_ (n := 14) (S := fun w' => w'.cell? ⟨w.heap.size + 1, 0, none⟩ = some (.slice Av U.length cv) ∧ w'.cell? ⟨W2.heap.size, 0, none⟩ = some (.slice A0 su.length c0) ∧ w'.cell? ⟨W2.heap.size, 1, none⟩ = some (.slice A1 0 c1) ∧ w'.cell? ⟨W2.heap.size, 2, none⟩ = some (.int .i64 (sq + 1)) ∧ w'.cell? ⟨W2.heap.size, 3, none⟩ = some (.int .i64 (half : Int)) ∧ w'.cell? ⟨W2.heap.size, 4, none⟩ = some (.int .i64 (n : Int))) (ds := [12]) #[false, false, false, false, false, false, false, false, false, false, false, false, false, false] (by kernel_rfl) rfl rfl ⟨(blk_cell B6.out 0).trans rfl, (blk_cell B8.out 0).trans rfl, (blk_cell B8.out 1).trans rfl, (blk_cell B8.out 2).trans rfl, (blk_cell B8.out 3).trans rfl, (blk_cell B8.out 4).trans rfl⟩ (fun hHeld => ?_); refine with_tabW vmv.tab15 vmv.bits15 (fun HT_ HW_ => ?_)
    generalize W.drew = W9 at B6 B8 BF BD BR hHeld ⊢
    refine tk_ 0 (some 76) HT_ HW_ rfl rfl (.inl ⟨by rfl, by rintro w' ⟨s0, s1, s2, s3, s4, s5⟩; go_simp; with_reducible rfl⟩) hHeld (by simp only [Act.put, sa_, s0_, s1_, i64_w, i32_w]; rfl) ?_
    refine pu_ 1 (some 77) HT_ rfl rfl (.inl ⟨by rfl, by intro w'; go_simp; with_reducible rfl⟩) (by simp only [Act.put, sa_, s0_, s1_, i64_w, i32_w]; rfl) ?_
    refine pu_ 4 (some 80) HT_ rfl rfl (.inl ⟨by rfl, by intro w'; go_simp; with_reducible rfl⟩) (by simp only [Act.put, sa_, s0_, s1_, i64_w, i32_w]; rfl) ?_
    refine pu_ 5 (some 81) HT_ rfl rfl (.inl ⟨by rfl, by intro w'; go_simp; with_reducible rfl⟩) (by simp only [Act.put, sa_, s0_, s1_, i64_w, i32_w]; rfl) ?_
    refine tk_ 6 (some 82) HT_ HW_ rfl rfl (.inl ⟨by rfl, by rintro w' ⟨s0, s1, s2, s3, s4, s5⟩; go_simp; with_reducible rfl⟩) hHeld (by simp only [Act.put, sa_, s0_, s1_, i64_w, i32_w]; rfl) ?_
    refine pu_ 9 (some 85) HT_ rfl rfl (.inl ⟨by rfl, by intro w'; go_simp; with_reducible rfl⟩) (by simp only [Act.put, sa_, s0_, s1_, i64_w, i32_w]; rfl) ?_
    refine on_ 2 (some 78) HT_ rfl rfl (fun K hK => ?_)
    refine goes_ Try.func57 (by kernel_rfl) rfl #[] (by rfl) rfl rfl (by (try simp only [List.map_toArray, List.map_cons, List.map_nil]) <;> rfl) ?_
    refine (vault_blank.calls blank _ rfl).mono ?_
    rintro e W5 ⟨rfl, hb⟩
    refine ⟨_, rfl, ?_⟩
    have m0_ := am (blk_same B6.out hb); have m1_ := am (blk_same B8.out hb); have m2_ := am (below_step BF.out hb); have m3_ := am (blk_same BD.out hb); have m4_ := am (Kd.R_below BR.out hb); clear B6 B8 BF BD BR; have B6 := m0_; have B8 := m1_; have BF := m2_; have BD := m3_; have BR := m4_; clear m0_ m1_ m2_ m3_ m4_
    clear hb
    refine hK.out _ _ ⟨(blk_cell B6.out 0).trans rfl, (blk_cell B8.out 0).trans rfl, (blk_cell B8.out 1).trans rfl, (blk_cell B8.out 2).trans rfl, (blk_cell B8.out 3).trans rfl, (blk_cell B8.out 4).trans rfl⟩ (fun hHeld => ?_)
    clear hK K
    refine norm_ (by show Act.put _ (some 78) _ = _; simp only [Act.put, sa_, s0_, s1_, i64_w, i32_w]; rfl) ?_
    refine pu_ 3 (some 79) HT_ rfl rfl (.inl ⟨by rfl, by intro w'; go_simp; with_reducible rfl⟩) (by simp only [Act.put, sa_, s0_, s1_, i64_w, i32_w]; rfl) ?_
    refine on_ 7 (some 83) HT_ rfl rfl (fun K hK => ?_)
    refine goes_ Try.func56 (by kernel_rfl) rfl #[.agg #[.slice A0 su.length c0, .slice A1 0 c1, .int .i64 (sq + 1), .int .i64 (half : Int), .int .i64 (n : Int)]] (by rfl) rfl rfl (by (try simp only [List.map_toArray, List.map_cons, List.map_nil]) <;> rfl) ?_
    refine (HH.out _ BF.out).mono ?_
    rintro e W5 ⟨rfl, hb⟩
    refine ⟨_, rfl, ?_⟩
    have m0_ := am (blk_same B6.out hb); have m1_ := am (blk_same B8.out hb); have m2_ := am (below_step BF.out hb); have m3_ := am (blk_same BD.out hb); have m4_ := am (Kd.R_below BR.out hb); clear B6 B8 BF BD BR; have B6 := m0_; have B8 := m1_; have BF := m2_; have BD := m3_; have BR := m4_; clear m0_ m1_ m2_ m3_ m4_
    clear hb
    refine hK.out _ _ ⟨(blk_cell B6.out 0).trans rfl, (blk_cell B8.out 0).trans rfl, (blk_cell B8.out 1).trans rfl, (blk_cell B8.out 2).trans rfl, (blk_cell B8.out 3).trans rfl, (blk_cell B8.out 4).trans rfl⟩ (fun hHeld => ?_)
    clear hK K
    refine norm_ (by show Act.put _ (some 83) _ = _; simp only [Act.put, sa_, s0_, s1_, i64_w, i32_w]; rfl) ?_
    refine pu_ 8 (some 84) HT_ rfl rfl (.inl ⟨by rfl, by intro w'; go_simp; with_reducible rfl⟩) (by simp only [Act.put, sa_, s0_, s1_, i64_w, i32_w]; rfl) ?_
    refine on_ 10 (some 86) HT_ rfl rfl (fun K hK => ?_)
    refine Kd.R_lit_step k24 _ 24 ?hg (N := 86) ?hd (xs := ([(⟨false, ta, blank⟩ : S24), (⟨true, 0, (⟨#[]⟩ : ByteArray)⟩ : S24), (⟨false, ta, hd⟩ : S24), (⟨true, 0, (⟨#[]⟩ : ByteArray)⟩ : S24)] : List S24)) (inner := [.bool false, .int .i64 ta, .string blank, .bool true, .int .i64 0, .string (⟨#[]⟩ : ByteArray), .bool false, .int .i64 ta, .string hd, .bool true, .int .i64 0, .string (⟨#[]⟩ : ByteArray)]) (ok := fun _ => True) (okp := fun _ => True) ?hr ?hp (fun _ hk => hk) trivial (Below.refl _ _) (Nat.le_refl _) (by simp) ?_; (case hd => rfl); (case hg => rfl); (case hr => first | (go_simp; done) | (go_simp; rfl)); (case hp => exact (Reps.c3 (show Kd.M k24 _ _ _ (⟨false, ta, blank⟩ : S24) [.bool false, .int .i64 ta, .string blank] from (k24_mkM _ _ _ (⟨false, ta, blank⟩ : S24))) (Reps.c3 (show Kd.M k24 _ _ _ (⟨true, 0, (⟨#[]⟩ : ByteArray)⟩ : S24) [.bool true, .int .i64 0, .string (⟨#[]⟩ : ByteArray)] from (k24_mkM _ _ _ (⟨true, 0, (⟨#[]⟩ : ByteArray)⟩ : S24))) (Reps.c3 (show Kd.M k24 _ _ _ (⟨false, ta, hd⟩ : S24) [.bool false, .int .i64 ta, .string hd] from (k24_mkM _ _ _ (⟨false, ta, hd⟩ : S24))) (Reps.c3 (show Kd.M k24 _ _ _ (⟨true, 0, (⟨#[]⟩ : ByteArray)⟩ : S24) [.bool true, .int .i64 0, .string (⟨#[]⟩ : ByteArray)] from (k24_mkM _ _ _ (⟨true, 0, (⟨#[]⟩ : ByteArray)⟩ : S24))) (Reps.none _ _))))))
    intro vl w82 hol hb hg_ hnew_
    clear hg_ hnew_
    rw [← HF4.out] at hol
    have m0_ := am (blk_same B6.out hb); have m1_ := am (blk_same B8.out hb); have m2_ := am (below_step BF.out hb); have m3_ := am (blk_same BD.out hb); have m4_ := am (Kd.R_elder' BR.out (Kd.R_base hol) hb); have HL := am (Kd.R_lower (Kd.R_new' hol (Kd.R_lt BR.out)) BF.out.size); clear B6 B8 BF BD BR; have B6 := m0_; have B8 := m1_; have BF := m2_; have BD := m3_; have BR := m4_; clear m0_ m1_ m2_ m3_ m4_ hb hol
    obtain ⟨Ao85, co85, eo85⟩ := Kd.R_slice HL.out
    subst eo85
    refine hK.out _ _ ⟨(blk_cell B6.out 0).trans rfl, (blk_cell B8.out 0).trans rfl, (blk_cell B8.out 1).trans rfl, (blk_cell B8.out 2).trans rfl, (blk_cell B8.out 3).trans rfl, (blk_cell B8.out 4).trans rfl⟩ (fun hHeld => ?_)
    clear hK K
    refine norm_ (by show Act.put _ (some 86) _ = _; simp only [Act.put, sa_, s0_, s1_, i64_w, i32_w]; rfl) ?_
    refine on_ 11 (some 87) HT_ rfl rfl (fun K hK => ?_)
    refine Kd.R_append_rows_step k24 (w0 := w) w.heap.size (by rfl) (.tmp 76) (.tmp 86) 28 24 (.agg #[(.bool false), (.int .i64 0), (.string ⟨#[]⟩)]) 32 rfl Try.underlying28 info24 rfl (by decide) (by omega) (.slice Av U.length cv) U F4 _ _ _ (fun k_ => some k_ ≠ (.slice Ao85 F4.length co85 : Value).ownBlock) (fun _ => False) rfl rfl ?aO ?aR (fun _ _ h => h) (fun _ h => h.elim) ?aF ?aB ?aS ?aL ?_
    (case aR => exact (Kd.R_reads' HL.out).2.2)
    (case aB => exact BF.out)
    (case aF => exact (fun k_ hk => Kd.fresh' (Kd.R_lt HL.out) k_ hk))
    (case aO => exact (pm BR (fun _ hk => hk.2)))
    (case aS => exact BF.out.size)
    (case aL => have := HLU.out; have := F4L.out; omega)
    intro vz w84 ho hb hg hat
    obtain ⟨Az, cz, ez⟩ := Kd.R_slice ho
    generalize (U ++ F4).length = nz at ez
    subst ez
    have N6 := am (blk_grown B6.out hg (Kd.R_ne BR.out B6.out (by decide)))
    have N8 := am (blk_grown B8.out hg (Kd.R_ne BR.out B8.out (by decide)))
    have ND := am (blk_grown BD.out hg (fun e => by obtain ⟨cells, hc⟩ := Kd.R_typed BR.out D e.symm; rw [BD.out] at hc; cases hc))
    have NB := am hb; have NO := am (Kd.R_mono ho (fun _ _ => True.intro)); clear B6 B8 BF BD BR HL hb ho hg hat
    refine hK.out _ _ ⟨(blk_cell N6.out 0).trans rfl, (blk_cell N8.out 0).trans rfl, (blk_cell N8.out 1).trans rfl, (blk_cell N8.out 2).trans rfl, (blk_cell N8.out 3).trans rfl, (blk_cell N8.out 4).trans rfl⟩ (fun hHeld => ?_)
    clear hK K
    refine norm_ (by show Act.put _ (some 87) _ = _; simp only [Act.put, sa_, s0_, s1_, i64_w, i32_w]; rfl) ?_
    refine la_ 12 none HT_ rfl rfl (fun K hK => ?_)
    have hs1 := (blk_cell N6.out 0).trans rfl; have hf1 := blk_frozen N6.out 0
    refine skip_ (by rfl) rfl (by go_simp; rfl) ?_
    refine hK.out _ _ ?_
    clear hK K hs1 hf1
    refine pu_ 13 (some 7) HT_ rfl rfl (.inl ⟨by rfl, by intro w'; go_simp; with_reducible rfl⟩) (by simp only [Act.put, sa_, s0_, s1_, i64_w, i32_w]; rfl) ?_
    refine done_ (done_of HT_.out (by kernel_rfl)) ?_
    have D6 := am (put10_ N6.out (.slice Az nz cz))
    have DD := am ((Below.heap_setCell w84 ⟨w.heap.size + 1, 0, none⟩ (.slice Az nz cz) D nD).trans ND.out)
    have DO := am (R_put NO.out N6.out (by decide) (.slice Az nz cz))
    have DB := am (below_set NB.out (show w.heap.size ≤ w.heap.size + 1 by omega) (j := 0) (v := .slice Az nz cz))
    clear N6 N8 NO NB HT_ HW_ hHeld ND
    generalize w84.setCell ⟨w.heap.size + 1, 0, none⟩ (.slice Az nz cz) = Z at *
    go_wp2
    have hO : OwnW w.heap.size (fun X => X.heap[w.heap.size + 1]? = some (.cells #[.slice Az nz cz] 28 (0, 0)) ∧ Kd.R k24 24 X w.heap.size (fun _ => True) (.slice Az nz cz) (U ++ F4) ∧ Below w.heap.size w X) := .and (.blk _ _ _ _) (.and (.row _ _ _ _ _ _) (.below (Nat.le_refl _) (Nat.le_refl _)))
    obtain ⟨e6, eR, eB⟩ := hO.putObj (.deferred none) ⟨D6.out, DO.out, DB.out⟩ (Nat.le_trans YW.size hD) DD.out rfl
    refine XB.QM_ret (.inl rfl) DD.out (XB.resultsX_list (rs := [.cell 6 28, .tmp 7]) rfl (by simp) (.one (w.heap.size + 1) 28 (.slice Az nz cz) (0, 0) _ rfl e6 Try.underlying28 rfl (.tmp .nil))) ⟨_, rfl, ?_, eB⟩
    rw [HSM.out, HUU.out, HTA.out, ← HF4.out]
    exact eR
  case body =>
    rintro l k W ⟨hF, h8, h11, h12, v, h6, hRv⟩ hk
    clear hb1 hb2 Y6 Y8 Y11 Y12 hU0
    have hps := rdS_size hz (b := ((2 + p + k : Nat) : Int)) (by omega) (by omega)
    have hlz := left_size all k
    have hln := left_next all k
    have hsm := same_next (same := same) k
    obtain ⟨hm0, hm1⟩ := same_range hs0 hs1 k
    have hmk : mvU su all same (2 + p) (k + 1) = mvU su all same (2 + p) k ++ mvK su all same (2 + p) k := rfl
    have hUl := mvU_len su all same (2 + p) k
    unfold mvK at hmk
    unfold sizeK at hln hmk
    rw [hal] at hlz hmk hln
    obtain ⟨z, hzz⟩ : ∃ z : Nat, min (n - 64 * k) 64 = z := ⟨_, rfl⟩
    have hmin : min ((n - 64 * k : Nat) : Int) 64 = (z : Int) := by omega
    have hzm : z ≤ n - 64 * k := by omega
    have hz64 : z ≤ 64 := by omega
    rw [hzz] at hmk hln
    obtain ⟨m, hm⟩ : ∃ m : Nat, n - 64 * k = m := ⟨_, rfl⟩
    rw [hm] at hlz hmin hzm
    have hm2 : m ≤ 1000000 := by omega
    clear hm hzz
    generalize hL2 : leftK all (k + 1) = L2 at *
    generalize leftK all k = L at *
    generalize hS2 : sameK same (k + 1) = sm2 at *
    generalize sameK same k = sm at *
    generalize hU2 : mvU su all same (2 + p) (k + 1) = U2 at *
    generalize mvU su all same (2 + p) k = U at *
    obtain ⟨at_, hat⟩ : ∃ at_ : Nat, 2 + p + k = at_ := ⟨_, rfl⟩
    rw [hat] at hps hmk ⊢
    generalize rdOf ByteArray.empty su (at_ : Int) = old at *
    rw [hlz] at hln
    have HL2 := Lib.hid hL2
    have HS2 := Lib.hid hS2
    have HU2 := Lib.hid hU2
    have HMK := Lib.hid hmk
    have HF := Lib.hid hF
    have HP := Lib.hid hp
    have HUL := Lib.hid hUl
    have B6 := am h6
    have B8 := am h8
    have B11 := am h11
    have B12 := am h12
    have HV := am hRv
    have c11 := (blk_cell h11 0).trans rfl
    have c12 := (blk_cell h12 0).trans rfl
    have w64 : IntKind.i64.wrap (sm - 64) = sm - 64 := IntWalk.i64_in _ (by omega)
    have hle : (z : Int) ≤ (m : Int) := by omega
    have HMX := Lib.hid (And.intro w64 (And.intro hsm (And.intro hln hle)))
    clear hL2 hS2 hU2 hmk hF hp hUl h6 h8 h11 h12 hRv hat HAL hal hw w64 hsm hln hle hsu hso hsame
    by_cases hc : 0 < z ∧ sm < (z : Int)
    · obtain ⟨hc1, hc2⟩ := hc
      have HE : Aside0 (U2 = U ++ [⟨false, (at_ : Int), L.extract 0 z ++ old.extract z 64⟩]) := am (by have := HMK.out; rw [if_pos ⟨hc1, hc2⟩] at this; exact this)
      have hc3 : (0 : Int) < (z : Int) := by omega
      have hz64i : (z : Int) ≤ 64 := by omega
      obtain ⟨w64, hsm, hln, hle⟩ := HMX.out
      have s1 : (L.extract 0 z).size = z := by rw [ByteArray.size_extract, hlz]; omega
      have s2 : (old.extract z 64).size = 64 - z := by rw [ByteArray.size_extract, hps]; omega
      obtain ⟨P1, hP1⟩ : ∃ P1, L.extract 0 z = P1 := ⟨_, rfl⟩
      obtain ⟨P2, hP2⟩ : ∃ P2, old.extract z 64 = P2 := ⟨_, rfl⟩
      obtain ⟨bx, hbx⟩ : ∃ bx, P1 ++ P2 = bx := ⟨_, rfl⟩
      rw [hP1] at s1 HE
      rw [hP2] at s2 HE
      rw [hbx] at HE
      have hcat : ¬ 9223372036854775807 < P1.size + P2.size := by omega
      clear s1 s2 hsm hln w64
      gi_wp2_with fail
      have XO := am (below_drew1 (Below.refl W.heap.size W))
      have CB := am (below_step HF.out.2.2 XO.out)
      have CO := am (Kd.R_drew HV.out)
      have C6 := am (Go.Proofs.YtcfinlmocgbnbaaW.PrintWords.bkD B6.out)
      have C8 := am (Go.Proofs.YtcfinlmocgbnbaaW.PrintWords.bkD B8.out)
      have C11 := am (Go.Proofs.YtcfinlmocgbnbaaW.PrintWords.bkD B11.out)
      have C12 := am (Go.Proofs.YtcfinlmocgbnbaaW.PrintWords.bkD B12.out)
      have Cg1 := am (Go.Proofs.YtcfinlmocgbnbaaW.PrintWords.bkD HF.out.1)
      have Cg2 := am (Go.Proofs.YtcfinlmocgbnbaaW.PrintWords.bkD HF.out.2.1)
      refine XB.round_start (m := 13) (S := fun w' => w'.cell? ⟨w.heap.size + 1, 0, none⟩ = some (v) ∧ w'.cell? ⟨W2.heap.size + 1, 0, none⟩ = some (.string L)) (ds := [12]) #[false, false, false, false, false, false, false, false, false, false, false, false, false] (by kernel_rfl) rfl rfl (by kernel_rfl) (by exact fun ⟨_, _, h⟩ => h) ⟨(blk_cell C6.out 0).trans rfl, (blk_cell C11.out 0).trans rfl⟩ (fun hHeld => ?_); refine with_tabW vmv.tab12 vmv.bits12 (fun HT_ HW_ => ?_)
      generalize W.drew = W9 at XO CB CO C6 C8 C11 C12 Cg1 Cg2 hHeld ⊢
      refine tk_ 0 (some 54) HT_ HW_ rfl rfl (.inl ⟨by rfl, by rintro w' ⟨s0, s1⟩; go_simp; with_reducible rfl⟩) hHeld (by simp only [Act.put, sa_, s0_, s1_, i64_w, i32_w]; rfl) ?_
      refine pu_ 1 (some 55) HT_ rfl rfl (.inl ⟨by rfl, by intro w'; go_simp; with_reducible rfl⟩) (by simp only [Act.put, sa_, s0_, s1_, i64_w, i32_w]; rfl) ?_
      refine tk_ 2 (some 56) HT_ HW_ rfl rfl (.inl ⟨by rfl, by rintro w' ⟨s0, s1⟩; go_simp; with_reducible rfl⟩) hHeld (by simp only [Act.put, sa_, s0_, s1_, i64_w, i32_w]; rfl) ?_
      refine pu_ 3 (some 57) HT_ rfl rfl (.inl ⟨by rfl, by intro w'; go_simp; with_reducible rfl⟩) (by simp only [Act.put, sa_, s0_, s1_, i64_w, i32_w]; rfl) ?_
      refine pu_ 4 (some 58) HT_ rfl rfl (.inl ⟨by rfl, by intro w'; go_simp; with_reducible rfl⟩) (by simp only [Act.put, sa_, s0_, s1_, i64_w, i32_w]; rfl) ?_
      refine pu_ 5 (some 59) HT_ rfl rfl (.inl ⟨by rfl, by intro w'; go_simp; with_reducible rfl⟩) (by simp only [Act.put, sa_, s0_, s1_, i64_w, i32_w]; rfl) ?_
      refine pu_ 6 (some 60) HT_ rfl rfl (.inl ⟨by rfl, by intro w'; go_simp; with_reducible rfl⟩) (by simp only [Act.put, sa_, s0_, s1_, i64_w, i32_w]; rfl) ?_
      refine pu_ 7 (some 61) HT_ rfl rfl (.inl ⟨by rfl, by intro w'; go_simp; with_reducible rfl⟩) (by simp only [Act.put, sa_, s0_, s1_, i64_w, i32_w]; rfl) ?_
      refine pu_ 8 (some 62) HT_ rfl rfl (.inl ⟨by rfl, by intro w'; go_simp; with_reducible rfl⟩) (by simp only [Act.put, sa_, s0_, s1_, i64_w, i32_w]; rfl) ?_
      refine pu_ 9 (some 63) HT_ rfl rfl (.inl ⟨by rfl, by intro w'; go_simp; with_reducible rfl⟩) (by simp only [Act.put, sa_, s0_, s1_, i64_w, i32_w]; rfl) ?_
      refine on_ 10 (some 64) HT_ rfl rfl (fun K hK => ?_)
      refine value_ (w1 := ?_) (v := ?_) (by rfl) rfl ?_ ?_
      rotate_left 2
      · go_simp
        constructor
        rotate_left
        · rfl
        rfl
      refine hK.out _ _ ⟨(blk_cell (bkA C6.out _) 0).trans rfl, (blk_cell (bkA C11.out _) 0).trans rfl⟩ (fun hHeld => ?_)
      clear hK K
      refine norm_ (by show Act.put _ (some 64) _ = _; simp only [Act.put, sa_, s0_, s1_, i64_w, i32_w]; rfl) ?_
      refine on_ 11 (some 65) HT_ rfl rfl (fun K hK => ?_)
      refine Kd.R_append_step k24 (w0 := w) w.heap.size (by rfl) (.tmp 54) (.tmp 64) 28 24 (.agg #[(.bool false), (.int .i64 0), (.string ⟨#[]⟩)]) 32 rfl Try.underlying28 info24 rfl (by decide) (by omega) v U (⟨false, (at_ : Int), bx⟩ : S24) [.bool false, .int .i64 (at_ : Int), .string bx] (fun _ => True) (fun _ => False) rfl rfl ?aP (fun _ hk => hk.elim) ?aF ?aO ?aB ?aS ?aL ?_
      (case aP => exact k24_mkM _ _ _ (⟨false, (at_ : Int), bx⟩ : S24))
      (case aB => exact CB.out)
      (case aF => exact (fun _ _ => trivial))
      (case aO => exact CO.out)
      (case aS => exact CB.out.size)
      (case aL => have := HUL.out; omega)
      intro v1 w1 ho hb hg hat
      obtain ⟨Av, cv, ev1⟩ := Kd.R_slice ho
      generalize (U ++ [(⟨false, (at_ : Int), bx⟩ : S24)]).length = nl at ev1
      subst ev1
      have N6 := am (blk_grown C6.out hg (Kd.R_ne CO.out C6.out (by decide)))
      have N8 := am (blk_grown C8.out hg (Kd.R_ne CO.out C8.out (by decide)))
      have N11 := am (blk_grown C11.out hg (Kd.R_ne CO.out C11.out (by decide)))
      have N12 := am (blk_grown C12.out hg (Kd.R_ne CO.out C12.out (by decide)))
      have Ng1 := am (blk_grown Cg1.out hg (Kd.R_ne CO.out Cg1.out (by decide)))
      have Ng2 := am (blk_grown Cg2.out hg (Kd.R_ne CO.out Cg2.out (by decide)))
      have HKK := am ((keeps_below (B := W3.heap.size) XO.out).trans (keeps_grown (B := W3.heap.size) hg (fun r e => by obtain ⟨cells, hc⟩ := Kd.R_typed CO.out r e; exact ⟨_, _, _, hc⟩)))
      have NB := am hb; have NO := am ho; clear C6 C8 C11 C12 Cg1 Cg2 CB CO hb ho hg hat
      refine hK.out _ _ ⟨(blk_cell N6.out 0).trans rfl, (blk_cell N11.out 0).trans rfl⟩ (fun hHeld => ?_)
      clear hK K
      refine norm_ (by show Act.put _ (some 65) _ = _; simp only [Act.put, sa_, s0_, s1_, i64_w, i32_w]; rfl) ?_
      refine la_ 12 none HT_ rfl rfl (fun K hK => ?_)
      have hs1 := (blk_cell N6.out 0).trans rfl; have hf1 := blk_frozen N6.out 0
      refine skip_ (by rfl) rfl (by go_simp; rfl) ?_
      refine hK.out _ _ ?_
      clear hK K hs1 hf1
      refine done_ (done_of HT_.out (by kernel_rfl)) ?_
      have D6 := am (put10_ N6.out (.slice Av nl cv))
      have D8 := am (blk_far N8.out (p := ⟨w.heap.size + 1, 0, none⟩) (show W2.heap.size ≠ w.heap.size + 1 by omega) (.slice Av nl cv))
      have D11 := am (blk_far N11.out (p := ⟨w.heap.size + 1, 0, none⟩) (show W2.heap.size + 1 ≠ w.heap.size + 1 by omega) (.slice Av nl cv))
      have D12 := am (blk_far N12.out (p := ⟨w.heap.size + 1, 0, none⟩) (show W2.heap.size + 1 + 1 ≠ w.heap.size + 1 by omega) (.slice Av nl cv))
      have Dg1 := am (blk_far Ng1.out (p := ⟨w.heap.size + 1, 0, none⟩) (show g1 ≠ w.heap.size + 1 by exact ng1) (.slice Av nl cv))
      have Dg2 := am (blk_far Ng2.out (p := ⟨w.heap.size + 1, 0, none⟩) (show g2 ≠ w.heap.size + 1 by exact ng2) (.slice Av nl cv))
      have DO := am (R_put NO.out N6.out (by decide) (.slice Av nl cv))
      have DB := am (below_set NB.out (show w.heap.size ≤ w.heap.size + 1 by omega) (j := 0) (v := .slice Av nl cv))
      have HKY := am (keeps_set (B := W3.heap.size) HKK.out ⟨w.heap.size + 1, 0, none⟩ (.slice Av nl cv))
      clear N6 N8 N11 N12 Ng1 Ng2 NO NB HKK HT_ HW_ hHeld XO B6 B8 B11 B12 HV
      generalize w1.setCell ⟨w.heap.size + 1, 0, none⟩ (.slice Av nl cv) = Y at *
      have B6 := D6; have B8 := D8; have B11 := D11; have B12 := D12; have HV := DO
      clear D6 D8 D11 D12 DO
      have HKK := HKY; clear HKY
      have HVK : Aside0 (VK w g1 g2 #[.slice A0 su.length c0, .slice A1 0 c1, .int .i64 (sq + 1), .int .i64 (half : Int), .int .i64 (n : Int)] #[.int .i64 (half : Int)] W Y) := am (fun _ => ⟨Dg1.out, Dg2.out, DB.out⟩)
      have c11 := (blk_cell B11.out 0).trans rfl
      have c12 := (blk_cell B12.out 0).trans rfl
      gi_wp2_with fail
      have C11 := am (Go.Proofs.YtcfinlmocgbnbaaW.PrintWords.bkD B11.out)
      have C12 := am (Go.Proofs.YtcfinlmocgbnbaaW.PrintWords.bkD B12.out)
      obtain ⟨w64, hsm, hln, hle⟩ := HMX.out
      have XO := am (below_drew1 (Below.refl Y.heap.size Y))
      refine XB.round_start (m := 8) (S := fun w' => w'.cell? ⟨W2.heap.size + 1 + 1, 0, none⟩ = some (.int .i64 sm)) (ds := [7]) #[false, false, false, false, false, false, false, false] (by kernel_rfl) rfl rfl (by kernel_rfl) (by exact fun ⟨_, _, h⟩ => h) ((blk_cell C12.out 0).trans rfl) (fun hHeld => ?_); refine with_tabW vmv.tab13 vmv.bits13 (fun HT_ HW_ => ?_)
      generalize Y.drew = W9 at XO C11 C12 hHeld ⊢
      refine pu_ 1 (some 67) HT_ rfl rfl (.inl ⟨by rfl, by intro w'; go_simp; with_reducible rfl⟩) (by simp only [Act.put, sa_, s0_, s1_, i64_w, i32_w]; rfl) ?_
      refine tk_ 3 (some 69) HT_ HW_ rfl rfl (.inl ⟨by rfl, by rintro w' s0; go_simp; with_reducible rfl⟩) hHeld (by simp only [Act.put, sa_, s0_, s1_, i64_w, i32_w]; rfl) ?_
      refine pu_ 4 (some 70) HT_ rfl rfl (.inl ⟨by rfl, by intro w'; go_simp; with_reducible rfl⟩) (by simp only [Act.put, sa_, s0_, s1_, i64_w, i32_w]; rfl) ?_
      refine pu_ 5 (some 71) HT_ rfl rfl (.inl ⟨by rfl, by intro w'; go_simp; with_reducible rfl⟩) (by simp only [Act.put, sa_, s0_, s1_, i64_w, i32_w]; rfl) ?_
      refine on_ 0 (some 66) HT_ rfl rfl (fun K hK => ?_)
      have hs1 := (blk_cell C11.out 0).trans rfl
      refine value_ (w1 := ?_) (v := ?_) (by rfl) rfl ?_ ?_
      rotate_left 2
      · go_simp
        constructor
        rotate_left
        · rfl
        rfl
      clear hs1
      refine hK.out _ _ hHeld (fun hHeld => ?_)
      clear hK K
      refine norm_ (by show Act.put _ (some 66) _ = _; simp only [Act.put, sa_, s0_, s1_, i64_w, i32_w]; rfl) ?_
      refine pu_ 2 (some 68) HT_ rfl rfl (.inl ⟨by rfl, by intro w'; go_simp; with_reducible rfl⟩) (by simp only [Act.put, sa_, s0_, s1_, i64_w, i32_w]; rfl) ?_
      refine on_ 6 none HT_ rfl rfl (fun K hK => ?_)
      have hs1 := (blk_cell C11.out 0).trans rfl; have hf1 := blk_frozen C11.out 0
      refine skip_ (by rfl) rfl (by go_simp; rfl) ?_
      clear hs1 hf1
      have C11b := am (put10_ C11.out (.string L2)); have C12b := am (blk_far C12.out (p := ⟨W2.heap.size + 1, 0, none⟩) (show W2.heap.size + 1 + 1 ≠ W2.heap.size + 1 by omega) (.string L2)); clear C12 C11; have C12 := C12b; have C11 := C11b; clear C12b C11b
      refine hK.out _ _ ((blk_cell C12.out 0).trans rfl) (fun hHeld => ?_)
      clear hK K
      refine la_ 7 none HT_ rfl rfl (fun K hK => ?_)
      have hs1 := (blk_cell C12.out 0).trans rfl; have hf1 := blk_frozen C12.out 0
      refine skip_ (by rfl) rfl (by go_simp; rfl) ?_
      refine hK.out _ _ ?_
      clear hK K hs1 hf1
      refine done_ (done_of HT_.out (by kernel_rfl)) ?_
      gi_wp2
      exact round_end (by omega) (by omega) (by omega) (by omega) (by omega) mg1 kg1 mg2 kg2 (by omega) (by omega) HKK.out HVK.out HF.out B8.out B11.out B12.out B6.out (by rw [HE.out]; exact HV.out) XO.out HL2.out HS2.out HU2.out
    · have HE : Aside0 (U2 = U) := am (by have := HMK.out; rw [if_neg hc, List.append_nil] at this; exact this)
      by_cases hz0 : 0 < z
      · have hc2 : ¬ sm < (z : Int) := fun h => hc ⟨hz0, h⟩
        clear hc
        gi_wp2_with fail
        have C11 := am (Go.Proofs.YtcfinlmocgbnbaaW.PrintWords.bkD B11.out)
        have C12 := am (Go.Proofs.YtcfinlmocgbnbaaW.PrintWords.bkD B12.out)
        obtain ⟨w64, hsm, hln, hle⟩ := HMX.out
        have XO := am (below_drew1 (Below.refl W.heap.size W))
        refine XB.round_start (m := 8) (S := fun w' => w'.cell? ⟨W2.heap.size + 1 + 1, 0, none⟩ = some (.int .i64 sm)) (ds := [7]) #[false, false, false, false, false, false, false, false] (by kernel_rfl) rfl rfl (by kernel_rfl) (by exact fun ⟨_, _, h⟩ => h) ((blk_cell C12.out 0).trans rfl) (fun hHeld => ?_); refine with_tabW vmv.tab13 vmv.bits13 (fun HT_ HW_ => ?_)
        generalize W.drew = W9 at XO C11 C12 hHeld ⊢
        refine pu_ 1 (some 67) HT_ rfl rfl (.inl ⟨by rfl, by intro w'; go_simp; with_reducible rfl⟩) (by simp only [Act.put, sa_, s0_, s1_, i64_w, i32_w]; rfl) ?_
        refine tk_ 3 (some 69) HT_ HW_ rfl rfl (.inl ⟨by rfl, by rintro w' s0; go_simp; with_reducible rfl⟩) hHeld (by simp only [Act.put, sa_, s0_, s1_, i64_w, i32_w]; rfl) ?_
        refine pu_ 4 (some 70) HT_ rfl rfl (.inl ⟨by rfl, by intro w'; go_simp; with_reducible rfl⟩) (by simp only [Act.put, sa_, s0_, s1_, i64_w, i32_w]; rfl) ?_
        refine pu_ 5 (some 71) HT_ rfl rfl (.inl ⟨by rfl, by intro w'; go_simp; with_reducible rfl⟩) (by simp only [Act.put, sa_, s0_, s1_, i64_w, i32_w]; rfl) ?_
        refine on_ 0 (some 66) HT_ rfl rfl (fun K hK => ?_)
        have hs1 := (blk_cell C11.out 0).trans rfl
        refine value_ (w1 := ?_) (v := ?_) (by rfl) rfl ?_ ?_
        rotate_left 2
        · go_simp
          constructor
          rotate_left
          · rfl
          rfl
        clear hs1
        refine hK.out _ _ hHeld (fun hHeld => ?_)
        clear hK K
        refine norm_ (by show Act.put _ (some 66) _ = _; simp only [Act.put, sa_, s0_, s1_, i64_w, i32_w]; rfl) ?_
        refine pu_ 2 (some 68) HT_ rfl rfl (.inl ⟨by rfl, by intro w'; go_simp; with_reducible rfl⟩) (by simp only [Act.put, sa_, s0_, s1_, i64_w, i32_w]; rfl) ?_
        refine on_ 6 none HT_ rfl rfl (fun K hK => ?_)
        have hs1 := (blk_cell C11.out 0).trans rfl; have hf1 := blk_frozen C11.out 0
        refine skip_ (by rfl) rfl (by go_simp; rfl) ?_
        clear hs1 hf1
        have C11b := am (put10_ C11.out (.string L2)); have C12b := am (blk_far C12.out (p := ⟨W2.heap.size + 1, 0, none⟩) (show W2.heap.size + 1 + 1 ≠ W2.heap.size + 1 by omega) (.string L2)); clear C12 C11; have C12 := C12b; have C11 := C11b; clear C12b C11b
        refine hK.out _ _ ((blk_cell C12.out 0).trans rfl) (fun hHeld => ?_)
        clear hK K
        refine la_ 7 none HT_ rfl rfl (fun K hK => ?_)
        have hs1 := (blk_cell C12.out 0).trans rfl; have hf1 := blk_frozen C12.out 0
        refine skip_ (by rfl) rfl (by go_simp; rfl) ?_
        refine hK.out _ _ ?_
        clear hK K hs1 hf1
        refine done_ (done_of HT_.out (by kernel_rfl)) ?_
        gi_wp2
        exact round_end (by omega) (by omega) (by omega) (by omega) (by omega) mg1 kg1 mg2 kg2 (by omega) (by omega) (keeps_below (Below.refl _ _)) (fun q => q) HF.out B8.out B11.out B12.out B6.out (by rw [HE.out]; exact HV.out) XO.out HL2.out HS2.out HU2.out
      · have hc2 : ¬ (0 : Int) < (z : Int) := by omega
        clear hc
        gi_wp2_with fail
        have C11 := am (Go.Proofs.YtcfinlmocgbnbaaW.PrintWords.bkD B11.out)
        have C12 := am (Go.Proofs.YtcfinlmocgbnbaaW.PrintWords.bkD B12.out)
        obtain ⟨w64, hsm, hln, hle⟩ := HMX.out
        have XO := am (below_drew1 (Below.refl W.heap.size W))
        refine XB.round_start (m := 8) (S := fun w' => w'.cell? ⟨W2.heap.size + 1 + 1, 0, none⟩ = some (.int .i64 sm)) (ds := [7]) #[false, false, false, false, false, false, false, false] (by kernel_rfl) rfl rfl (by kernel_rfl) (by exact fun ⟨_, _, h⟩ => h) ((blk_cell C12.out 0).trans rfl) (fun hHeld => ?_); refine with_tabW vmv.tab13 vmv.bits13 (fun HT_ HW_ => ?_)
        generalize W.drew = W9 at XO C11 C12 hHeld ⊢
        refine pu_ 1 (some 67) HT_ rfl rfl (.inl ⟨by rfl, by intro w'; go_simp; with_reducible rfl⟩) (by simp only [Act.put, sa_, s0_, s1_, i64_w, i32_w]; rfl) ?_
        refine tk_ 3 (some 69) HT_ HW_ rfl rfl (.inl ⟨by rfl, by rintro w' s0; go_simp; with_reducible rfl⟩) hHeld (by simp only [Act.put, sa_, s0_, s1_, i64_w, i32_w]; rfl) ?_
        refine pu_ 4 (some 70) HT_ rfl rfl (.inl ⟨by rfl, by intro w'; go_simp; with_reducible rfl⟩) (by simp only [Act.put, sa_, s0_, s1_, i64_w, i32_w]; rfl) ?_
        refine pu_ 5 (some 71) HT_ rfl rfl (.inl ⟨by rfl, by intro w'; go_simp; with_reducible rfl⟩) (by simp only [Act.put, sa_, s0_, s1_, i64_w, i32_w]; rfl) ?_
        refine on_ 0 (some 66) HT_ rfl rfl (fun K hK => ?_)
        have hs1 := (blk_cell C11.out 0).trans rfl
        refine value_ (w1 := ?_) (v := ?_) (by rfl) rfl ?_ ?_
        rotate_left 2
        · go_simp
          constructor
          rotate_left
          · rfl
          rfl
        clear hs1
        refine hK.out _ _ hHeld (fun hHeld => ?_)
        clear hK K
        refine norm_ (by show Act.put _ (some 66) _ = _; simp only [Act.put, sa_, s0_, s1_, i64_w, i32_w]; rfl) ?_
        refine pu_ 2 (some 68) HT_ rfl rfl (.inl ⟨by rfl, by intro w'; go_simp; with_reducible rfl⟩) (by simp only [Act.put, sa_, s0_, s1_, i64_w, i32_w]; rfl) ?_
        refine on_ 6 none HT_ rfl rfl (fun K hK => ?_)
        have hs1 := (blk_cell C11.out 0).trans rfl; have hf1 := blk_frozen C11.out 0
        refine skip_ (by rfl) rfl (by go_simp; rfl) ?_
        clear hs1 hf1
        have C11b := am (put10_ C11.out (.string L2)); have C12b := am (blk_far C12.out (p := ⟨W2.heap.size + 1, 0, none⟩) (show W2.heap.size + 1 + 1 ≠ W2.heap.size + 1 by omega) (.string L2)); clear C12 C11; have C12 := C12b; have C11 := C11b; clear C12b C11b
        refine hK.out _ _ ((blk_cell C12.out 0).trans rfl) (fun hHeld => ?_)
        clear hK K
        refine la_ 7 none HT_ rfl rfl (fun K hK => ?_)
        have hs1 := (blk_cell C12.out 0).trans rfl; have hf1 := blk_frozen C12.out 0
        refine skip_ (by rfl) rfl (by go_simp; rfl) ?_
        refine hK.out _ _ ?_
        clear hK K hs1 hf1
        refine done_ (done_of HT_.out (by kernel_rfl)) ?_
        gi_wp2
        exact round_end (by omega) (by omega) (by omega) (by omega) (by omega) mg1 kg1 mg2 kg2 (by omega) (by omega) (keeps_below (Below.refl _ _)) (fun q => q) HF.out B8.out B11.out B12.out B6.out (by rw [HE.out]; exact HV.out) XO.out HL2.out HS2.out HU2.out
set_option maxHeartbeats 4000000 in
theorem vmoves_long {su : List ByteArray} {A0 A1 : Option Addr} {c0 c1 n : Nat} {sq hf ln sq2 half : Int} {s all : ByteArray} {ins : Bool} (w : World)
    (hR : ∀ W, Below w.heap.size w W → Calls Try.prog 36 #[.agg #[.slice A0 su.length c0, .slice A1 0 c1, .int .i64 sq, .int .i64 hf, .int .i64 ln]] W fun e w' => e = .returned (.bool true) ∧ Below W.heap.size W w')
    (hN : ∀ W, Below w.heap.size w W → Calls Try.prog 59 #[.agg #[.slice A0 su.length c0, .slice A1 0 c1, .int .i64 sq, .int .i64 hf, .int .i64 ln], .string s, .bool ins] W fun e w' => e = .returned (.tuple #[.agg #[.slice A0 su.length c0, .slice A1 0 c1, .int .i64 sq2, .int .i64 half, .int .i64 (n : Int)], .string all, .bool false]) ∧ Below W.heap.size W w') :
    Calls Try.prog 37 #[.agg #[.slice A0 su.length c0, .slice A1 0 c1, .int .i64 sq, .int .i64 hf, .int .i64 ln], .string s, .bool ins] w fun e w' => ∃ v, e = .returned (.tuple #[v, .int .i64 2]) ∧ Kd.R k24 24 w' w.heap.size (fun _ => True) v ([] : List S24) ∧ Below w.heap.size w w' := by
  have HR := Lib.hid hR
  have HN := Lib.hid hN
  clear hR hN
  go_enter Try.func37, Try.ntmps37
  go_wp2_with fail
  generalize hW0 : World.alloc (World.alloc w _) _ = W0
  have F3 : W0.heap[w.heap.size]? = some (.cells #[.slice A0 su.length c0, .slice A1 0 c1, .int .i64 sq, .int .i64 hf, .int .i64 ln] 56 (0, 0)) := by rw [← hW0]; exact heap_alloc2_old w _ _
  have F6 : W0.heap[w.heap.size + 1]? = some (.cells #[.slice none 0 0] 28 (0, 0)) := by rw [← hW0]; exact heap_alloc2_new w _ _
  have FB : Below w.heap.size w W0 := by rw [← hW0]; exact below_alloc (below_alloc (Below.refl _ _) _) _
  clear hW0
  refine (HR.out W0 FB).mono ?_
  rintro e W1 ⟨rfl, hb⟩
  have G3 := Lib.hid (blk_same F3 hb)
  have G6 := Lib.hid (blk_same F6 hb)
  have GB := Lib.hid (below_step FB hb)
  have c_0 := (blk_cell G3.out 0).trans rfl
  have c_1 := (blk_cell G3.out 1).trans rfl
  have c_2 := (blk_cell G3.out 2).trans rfl
  have c_3 := (blk_cell G3.out 3).trans rfl
  have c_4 := (blk_cell G3.out 4).trans rfl
  clear hb F3 F6 FB HR W0
  go_wp2_with fail
  refine (HN.out W1 GB.out).mono ?_
  rintro e W2 ⟨rfl, hb⟩
  have G6b := Lib.hid (blk_same G6.out hb)
  have GBb := Lib.hid (below_step GB.out hb)
  have c_6 := (blk_cell G6b.out 0).trans rfl
  have f_6 := blk_frozen G6b.out 0
  have hlt6 : w.heap.size + 1 < W2.heap.size := Go.Proofs.YtcfinlmocgbnbaaW.PrintWords.blk_lt G6b.out
  clear hb c_0 c_1 c_2 c_3 c_4 G3 G6 GB W1 HN
  go_wp2
  have e6 := bkA (put10_ G6b.out (.slice none 0 0)) (.cells #[.slice A0 su.length c0, .slice A1 0 c1, .int .i64 sq2, .int .i64 half, .int .i64 (n : Int)] 89)
  exact bodyPost_ret (XB.resultsX_list (rs := [.cell 6 28, .tmp 7]) rfl (by simp) (.one (w.heap.size + 1) 28 (.slice none 0 0) (0, 0) _ rfl e6 Try.underlying28 rfl (.tmp .nil))) rfl ⟨_, rfl, Kd.R_nil k24 24 _ w.heap.size (fun _ => True), below_alloc (below_set GBb.out (by omega)) _⟩
end Go.Proofs.Ytcfinlmocgbnbaa.Pr
end
section
namespace Go.Proofs.Ytcfinlmocgbnbaa.Pr
open Go.Proofs.Ytcfinlmocgbnbaa.Sq Go.RowKit Go.Shelf Go.Proofs.Ytcfinlmocgbnbaa.XB Go.Proofs.YtcfinlmocgbnbaaW.PrintWords Go.Proofs.YtcfinlmocgbnbaaW.PrintLast Go.Proofs.YtcfinlmocgbnbaaW.PrintMore
attribute [local go_sem] Oper.semAt_some
set_option linter.unusedVariables false
set_option linter.unusedSimpArgs false
set_option maxRecDepth 100000
theorem boxes2 {w : World} (o0 o1 : Obj) : ((w.alloc o0).alloc o1).heap[w.heap.size]? = some o0 ∧ ((w.alloc o0).alloc o1).heap[w.heap.size + 1]? = some o1 := ⟨heap_alloc2_old w _ _, heap_alloc2_new w _ _⟩
set_option maxHeartbeats 8000000 in
theorem vkeep_calls {su r1 : List ByteArray} {ml r2 : List S24} {A0 A1 : Option Addr} {c0 c1 : Nat} {sq hf ln sq2 hf2 ln2 er : Int} {s all : ByteArray} {ins : Bool} (w : World)
    (hsu : Kd.C Kd.string w A0 su.length su) (hc0 : su.length ≤ c0) (hso : Kd.C k24 w A1 0 ([] : List S24))
    (hM : ∀ W, Below w.heap.size w W → Calls Try.prog 37 #[.agg #[.slice A0 su.length c0, .slice A1 0 c1, .int .i64 sq, .int .i64 hf, .int .i64 ln], .string s, .bool ins] W fun e w' => ∃ v, e = .returned (.tuple #[v, .int .i64 0]) ∧ Kd.R k24 24 w' W.heap.size (fun _ => True) v ml ∧ Below W.heap.size W w')
    (hN : ∀ W, Below w.heap.size w W → Calls Try.prog 59 #[.agg #[.slice A0 su.length c0, .slice A1 0 c1, .int .i64 sq, .int .i64 hf, .int .i64 ln], .string s, .bool ins] W fun e w' => e = .returned (.tuple #[.agg #[.slice A0 su.length c0, .slice A1 0 c1, .int .i64 sq2, .int .i64 hf2, .int .i64 ln2], .string all, .bool true]) ∧ Below W.heap.size W w')
    (hD : disk_Do.f su [] ml = some (r1, r2, er)) :
    Calls Try.prog 33 #[.agg #[.slice A0 su.length c0, .slice A1 0 c1, .int .i64 sq, .int .i64 hf, .int .i64 ln], .string s, .bool ins] w fun e w' => ∃ v0 v1, e = .returned (.tuple #[.agg #[v0, v1, .int .i64 sq2, .int .i64 hf2, .int .i64 ln2], .int .i64 0]) ∧ Kd.R Kd.string 9 w' w.heap.size (fun _ => True) v0 r1 ∧ Kd.R k24 24 w' w.heap.size (fun _ => True) v1 r2 ∧ Below w.heap.size w w' := by
  have HM := Lib.hid hM
  have HN := Lib.hid hN
  have HD := Lib.hid (show ∀ W (A : Option Addr) (c : Nat), Below w.heap.size w W → Kd.C k24 W A ml.length ml → ml.length ≤ c → Calls Try.prog 25 #[.agg #[.slice A0 su.length c0, .slice A1 0 c1], .slice A ml.length c] W fun e w' => ∃ v0_ v1_ : Value, e = .returned (.tuple #[.agg #[v0_, v1_], .int .i64 er]) ∧ Kd.R Kd.string 9 w' W.heap.size (fun _ => True) v0_ r1 ∧ Kd.R k24 24 w' W.heap.size (fun _ => True) v1_ r2 ∧ Below W.heap.size W w' from fun W A c h hm hc => disk_Do.calls A0 c0 su A1 c1 [] A c ml r1 r2 er W (Kd.C_below hsu h) hc0 (Kd.C_below hso h) (Nat.zero_le _) hm hc hD)
  clear hM hN hD hsu hso
  go_enter Try.func33, Try.ntmps33
  go_wp2_with fail
  generalize hW0 : World.alloc (World.alloc w _) _ = W0
  have F3 : W0.heap[w.heap.size]? = some (.cells #[.slice A0 su.length c0, .slice A1 0 c1, .int .i64 sq, .int .i64 hf, .int .i64 ln] 56 (0, 0)) := by rw [← hW0]; exact (boxes2 _ _).1
  have F6 : W0.heap[w.heap.size + 1]? = some (.cells #[.slice none 0 0, .slice none 0 0, .int .i64 0, .int .i64 0, .int .i64 0] 56 (0, 0)) := by rw [← hW0]; exact (boxes2 _ _).2
  have FB : Below w.heap.size w W0 := by rw [← hW0]; exact below_alloc (below_alloc (Below.refl _ _) _) _
  clear hW0
  refine (HM.out W0 FB).mono ?_
  rintro e W1 ⟨v, rfl, hv, hb⟩
  obtain ⟨Am, cm, em⟩ := Kd.R_slice hv
  subst em
  have G3 := Lib.hid (blk_same F3 hb)
  have G6 := Lib.hid (blk_same F6 hb)
  have GB := Lib.hid (below_step FB hb)
  have GM := Lib.hid (Kd.R_reads' hv).2.2
  have hcm := (Kd.R_reads' hv).2.1
  have c_0 := (blk_cell G3.out 0).trans rfl
  have c_1 := (blk_cell G3.out 1).trans rfl
  have c_2 := (blk_cell G3.out 2).trans rfl
  have c_3 := (blk_cell G3.out 3).trans rfl
  have c_4 := (blk_cell G3.out 4).trans rfl
  clear hb hv F3 F6 FB HM W0
  go_wp2_with fail
  refine (HN.out W1 GB.out).mono ?_
  rintro e W2 ⟨rfl, hb⟩
  have I3 := Lib.hid (blk_same G3.out hb)
  have I6 := Lib.hid (blk_same G6.out hb)
  have IB := Lib.hid (below_step GB.out hb)
  have IM := Lib.hid (Kd.C_below GM.out hb)
  clear hb c_0 c_1 c_2 c_3 c_4 G3 G6 GB GM W1 HN
  have c_0 := (blk_cell I3.out 0).trans rfl
  have c_1 := (blk_cell I3.out 1).trans rfl
  have hlt : w.heap.size + 1 < W2.heap.size := Go.Proofs.YtcfinlmocgbnbaaW.PrintWords.blk_lt I6.out
  have hlt0 : w.heap.size < W2.heap.size := by omega
  go_wp2_with fail
  generalize hX : World.alloc W2 _ = X
  have X6 := Lib.hid (show X.heap[w.heap.size + 1]? = some (.cells #[.slice none 0 0, .slice none 0 0, .int .i64 0, .int .i64 0, .int .i64 0] 56 (0, 0)) by rw [← hX]; exact bkA I6.out _)
  have X10 := Lib.hid (show X.heap[W2.heap.size]? = some (.cells #[.slice A0 su.length c0, .slice A1 0 c1, .int .i64 sq2, .int .i64 hf2, .int .i64 ln2] 89 (0, 0)) by rw [← hX]; exact heap_alloc_new W2 _)
  have XW := Lib.hid (show Below w.heap.size w X by rw [← hX]; exact below_alloc IB.out _)
  have XM := Lib.hid (show Kd.C k24 X Am ml.length ml by rw [← hX]; exact Kd.C_below IM.out (below_alloc (Below.refl _ _) _))
  have X3 := Lib.hid (show X.heap[w.heap.size]? = some (.cells #[.slice A0 su.length c0, .slice A1 0 c1, .int .i64 sq, .int .i64 hf, .int .i64 ln] 56 (0, 0)) by rw [← hX]; exact bkA I3.out _)
  clear hX c_0 c_1 I3 I6 IB IM
  refine (HD.out X Am cm XW.out XM.out hcm).mono ?_
  rintro e W3 ⟨v0, v1, rfl, h0, h1, hb⟩
  have hs : X.heap.size ≤ W3.heap.size := hb.size
  obtain ⟨Ap, cp, ep⟩ := Kd.R_slice h0
  subst ep
  obtain ⟨Aq, cq, eq⟩ := Kd.R_slice h1
  subst eq
  have R0 := am (Kd.R_lower h0 XW.out.size)
  have R1 := am (Kd.R_lower h1 XW.out.size)
  have Y6 := am (blk_same X6.out hb)
  have Y10 := am (blk_same X10.out hb)
  have YB := am (below_step XW.out hb)
  clear X3 h0 h1 hb X6 X10 XW XM HD hs
  have c_0 := (blk_cell Y10.out 0).trans rfl
  have c_1 := (blk_cell Y10.out 1).trans rfl
  have c_2 := (blk_cell Y10.out 2).trans rfl
  have c_3 := (blk_cell Y10.out 3).trans rfl
  have c_4 := (blk_cell Y10.out 4).trans rfl
  have f_0 := blk_frozen Y10.out 0
  have f_1 := blk_frozen Y10.out 1
  have e_0 := (blk_cell Y6.out 0).trans rfl
  have e_1 := (blk_cell Y6.out 1).trans rfl
  have e_2 := (blk_cell Y6.out 2).trans rfl
  have e_3 := (blk_cell Y6.out 3).trans rfl
  have e_4 := (blk_cell Y6.out 4).trans rfl
  have g_0 := blk_frozen Y6.out 0
  have g_1 := blk_frozen Y6.out 1
  have g_2 := blk_frozen Y6.out 2
  have g_3 := blk_frozen Y6.out 3
  have g_4 := blk_frozen Y6.out 4
  have n1 : W2.heap.size ≠ w.heap.size + 1 := by omega
  have n2 : w.heap.size + 1 ≠ W2.heap.size := by omega
  generalize r1.length = l1 at *
  generalize r2.length = l2 at *
  go_wp2
  have Z6 := am (blk_far (p := ⟨W2.heap.size, 1, none⟩) (blk_far (p := ⟨W2.heap.size, 0, none⟩) Y6.out n2 (.slice Ap l1 cp)) n2 (.slice Aq l2 cq))
  have Q0 := am (rs2 (v0 := .slice Ap l1 cp) (v1 := .slice Aq l2 cq) R0 Y10 (by decide))
  have Q1 := am (rs2 (v0 := .slice Ap l1 cp) (v1 := .slice Aq l2 cq) R1 Y10 (by decide))
  have QB := below_set (below_set YB.out (show w.heap.size ≤ W2.heap.size by omega) (j := 0) (v := .slice Ap l1 cp)) (show w.heap.size ≤ W2.heap.size by omega) (j := 1) (v := .slice Aq l2 cq)
  have e6 := bp5 (a' := .slice Ap l1 cp) (b' := .slice Aq l2 cq) (c' := .int .i64 sq2) (d' := .int .i64 hf2) (e' := .int .i64 ln2) Z6.out
  exact bodyPost_ret (XB.resultsX_list (rs := [.cell 6 56, .tmp 7]) rfl (by simp) (.cell (w.heap.size + 1) 56 #[.slice Ap l1 cp, .slice Aq l2 cq, .int .i64 sq2, .int .i64 hf2, .int .i64 ln2] (0, 0) _ rfl e6 Try.underlying56 rfl (by kernel_rfl) (.tmp .nil))) rfl
    ⟨_, _, rfl, rs5 Q0 Z6 (by decide), rs5 Q1 Z6 (by decide), below_set (below_set (below_set (below_set (below_set QB (by omega)) (by omega)) (by omega)) (by omega)) (by omega)⟩
set_option maxHeartbeats 8000000 in
theorem vkeep_err {su : List ByteArray} {A0 A1 : Option Addr} {c0 c1 : Nat} {sq hf ln er : Int} {s : ByteArray} {ins : Bool} (w : World)
    (hsu : Kd.C Kd.string w A0 su.length su) (hc0 : su.length ≤ c0) (hso : Kd.C k24 w A1 0 ([] : List S24)) (her : (er != 0) = true) (hlen : su.length < 8796093022208)
    (hM : ∀ W, Below w.heap.size w W → Calls Try.prog 37 #[.agg #[.slice A0 su.length c0, .slice A1 0 c1, .int .i64 sq, .int .i64 hf, .int .i64 ln], .string s, .bool ins] W fun e w' => ∃ v, e = .returned (.tuple #[v, .int .i64 er]) ∧ Kd.R k24 24 w' W.heap.size (fun _ => True) v ([] : List S24) ∧ Below W.heap.size W w') :
    Calls Try.prog 33 #[.agg #[.slice A0 su.length c0, .slice A1 0 c1, .int .i64 sq, .int .i64 hf, .int .i64 ln], .string s, .bool ins] w fun e w' => ∃ v0 v1, e = .returned (.tuple #[.agg #[v0, v1, .int .i64 sq, .int .i64 hf, .int .i64 ln], .int .i64 er]) ∧ Kd.R Kd.string 9 w' w.heap.size (fun _ => True) v0 su ∧ Kd.R k24 24 w' w.heap.size (fun _ => True) v1 ([] : List S24) ∧ Below w.heap.size w w' := by
  have HM := Lib.hid hM
  have HD := Lib.hid (show ∀ W, Below w.heap.size w W → Calls Try.prog 55 #[.agg #[.slice A0 su.length c0, .slice A1 0 c1]] W fun e w' => ∃ v0_ v1_ : Value, e = .returned (.agg #[v0_, v1_]) ∧ Kd.R Kd.string 9 w' W.heap.size (fun _ => True) v0_ su ∧ Kd.R k24 24 w' W.heap.size (fun _ => True) v1_ ([] : List S24) ∧ Below W.heap.size W w' from fun W h => vault_own.calls A0 c0 su A1 c1 [] su [] W (Kd.C_below hsu h) hc0 (Kd.C_below hso h) (Nat.zero_le _) (own_f ⟨hlen, by simp⟩))
  clear hM hsu hso
  go_enter Try.func33, Try.ntmps33
  go_wp2_with fail
  generalize hW0 : World.alloc (World.alloc w _) _ = W0
  have F3 : W0.heap[w.heap.size]? = some (.cells #[.slice A0 su.length c0, .slice A1 0 c1, .int .i64 sq, .int .i64 hf, .int .i64 ln] 56 (0, 0)) := by rw [← hW0]; exact (boxes2 _ _).1
  have F6 : W0.heap[w.heap.size + 1]? = some (.cells #[.slice none 0 0, .slice none 0 0, .int .i64 0, .int .i64 0, .int .i64 0] 56 (0, 0)) := by rw [← hW0]; exact (boxes2 _ _).2
  have FB : Below w.heap.size w W0 := by rw [← hW0]; exact below_alloc (below_alloc (Below.refl _ _) _) _
  clear hW0
  refine (HM.out W0 FB).mono ?_
  rintro e W1 ⟨v, rfl, hv, hb⟩
  obtain ⟨Am, cm, em⟩ := Kd.R_slice hv
  subst em
  have G3 := Lib.hid (blk_same F3 hb)
  have G6 := Lib.hid (blk_same F6 hb)
  have GB := Lib.hid (below_step FB hb)
  have c_0 := (blk_cell G3.out 0).trans rfl
  have c_1 := (blk_cell G3.out 1).trans rfl
  clear hb hv F3 F6 FB HM W0
  go_wp2_with fail
  refine (HD.out W1 GB.out).mono ?_
  rintro e W3 ⟨v0, v1, rfl, h0, h1, hb⟩
  obtain ⟨Ap, cp, ep⟩ := Kd.R_slice h0
  subst ep
  obtain ⟨Aq, cq, eq⟩ := Kd.R_slice h1
  subst eq
  have R0 := am (Kd.R_lower h0 GB.out.size)
  have R1 := am (Kd.R_lower h1 GB.out.size)
  have Y3 := am (blk_same G3.out hb)
  have Y6 := am (blk_same G6.out hb)
  have YB := am (below_step GB.out hb)
  clear h0 h1 hb c_0 c_1 G3 G6 GB HD
  have c_0 := (blk_cell Y3.out 0).trans rfl
  have c_1 := (blk_cell Y3.out 1).trans rfl
  have c_2 := (blk_cell Y3.out 2).trans rfl
  have c_3 := (blk_cell Y3.out 3).trans rfl
  have c_4 := (blk_cell Y3.out 4).trans rfl
  have f_0 := blk_frozen Y3.out 0
  have f_1 := blk_frozen Y3.out 1
  have e_0 := (blk_cell Y6.out 0).trans rfl
  have e_1 := (blk_cell Y6.out 1).trans rfl
  have e_2 := (blk_cell Y6.out 2).trans rfl
  have e_3 := (blk_cell Y6.out 3).trans rfl
  have e_4 := (blk_cell Y6.out 4).trans rfl
  have g_0 := blk_frozen Y6.out 0
  have g_1 := blk_frozen Y6.out 1
  have g_2 := blk_frozen Y6.out 2
  have g_3 := blk_frozen Y6.out 3
  have g_4 := blk_frozen Y6.out 4
  have n1 : w.heap.size ≠ w.heap.size + 1 := by omega
  have n2 : w.heap.size + 1 ≠ w.heap.size := by omega
  generalize su.length = l1 at *
  generalize ([] : List S24).length = l2 at *
  go_wp2
  have Z6 := am (blk_far (p := ⟨w.heap.size, 1, none⟩) (blk_far (p := ⟨w.heap.size, 0, none⟩) Y6.out n2 (.slice Ap l1 cp)) n2 (.slice Aq l2 cq))
  have Q0 := am (rs2 (v0 := .slice Ap l1 cp) (v1 := .slice Aq l2 cq) R0 Y3 (by decide))
  have Q1 := am (rs2 (v0 := .slice Ap l1 cp) (v1 := .slice Aq l2 cq) R1 Y3 (by decide))
  have QB := below_set (below_set YB.out (show w.heap.size ≤ w.heap.size by omega) (j := 0) (v := .slice Ap l1 cp)) (show w.heap.size ≤ w.heap.size by omega) (j := 1) (v := .slice Aq l2 cq)
  have e6 := bp5 (a' := .slice Ap l1 cp) (b' := .slice Aq l2 cq) (c' := .int .i64 sq) (d' := .int .i64 hf) (e' := .int .i64 ln) Z6.out
  exact bodyPost_ret (XB.resultsX_list (rs := [.cell 6 56, .tmp 7]) rfl (by simp) (.cell (w.heap.size + 1) 56 #[.slice Ap l1 cp, .slice Aq l2 cq, .int .i64 sq, .int .i64 hf, .int .i64 ln] (0, 0) _ rfl e6 Try.underlying56 rfl (by kernel_rfl) (.tmp .nil))) rfl
    ⟨_, _, rfl, rs5 Q0 Z6 (by decide), rs5 Q1 Z6 (by decide), below_set (below_set (below_set (below_set (below_set QB (by omega)) (by omega)) (by omega)) (by omega)) (by omega)⟩
end Go.Proofs.Ytcfinlmocgbnbaa.Pr
end
section
namespace Go.Proofs.Ytcfinlmocgbnbaa.Pr
open Go.Proofs.Ytcfinlmocgbnbaa.Sq Go.RowKit Go.Shelf Go.Proofs.Ytcfinlmocgbnbaa.XB Go.Proofs.YtcfinlmocgbnbaaW.PrintWords Go.Proofs.YtcfinlmocgbnbaaW.PrintLast Go.Proofs.YtcfinlmocgbnbaaW.PrintMore
attribute [local go_sem] Oper.semAt_some
set_option linter.unusedVariables false
set_option linter.unusedSimpArgs false
set_option maxRecDepth 100000
structure HdI where
  is : Bool
  q : Int
  h : Int
  l : Int
def better (b m : HdI) : HdI := if m.is = true ∧ b.q < m.q then m else b
def bestI (m : Nat → HdI) : Nat → HdI
  | 0 => ⟨false, -1, 0, 0⟩
  | i + 1 => better (bestI m i) (m i)
def vop.T18 : Bool × List (List Nat × List Nat) := (true, [([], []), ([0], [0]), ([], []), ([2], [2]), ([1, 3, 0, 1], [1]), ([3, 4, 0, 1, 2, 3, 4], [3]), ([5, 0, 1, 2, 3, 4, 5], [])])
def vop.B18 : List Nat := [0, 1, 0, 4, 15, 31, 63]
theorem vop.tab18 : rtab .any (opsOf Try.f35 18) = vop.T18 := by kernel_rfl
theorem vop.bits18 : waitsOk vop.T18.2 vop.B18 = true := by kernel_rfl
set_option maxHeartbeats 8000000 in
theorem vopen_ok {su r1 : List ByteArray} {A0 A1 : Option Addr} {c0 c1 : Nat} {er bq bh bl : Int} {b0 : Bool} {T : ByteArray} (s : Nat → ByteArray) (m : Nat → HdI) (w : World)
    (hsu : Kd.C Kd.string w A0 su.length su) (hc0 : su.length ≤ c0) (hso : Kd.C k24 w A1 0 ([] : List S24)) (hmay : vault_may.f su [] = some true) (hlen : su.length < 8796093022208)
    (hR : ∀ i : Nat, i < 2 → ∀ W, Below w.heap.size w W → Calls Try.prog 22 #[.agg #[.slice A0 su.length c0, .slice A1 0 c1], .int .i64 (i : Int)] W fun e w' => e = .returned (.tuple #[.string (s i), .int .i64 0]) ∧ Below W.heap.size W w')
    (hB : ∀ i : Nat, i < 2 → ∀ W g, Below w.heap.size w W → w.heap.size ≤ g → W.heap[g]? = some (.cells #[.slice A0 su.length c0, .slice A1 0 c1, .int .i64 (0), .int .i64 (0), .int .i64 (0)] 89 (0, 0)) → Calls Try.prog 60 #[.pointer (some ⟨g, 0, none⟩), .string (s i)] W fun e w' => e = .returned (.bool (m i).is) ∧ w'.heap[g]? = some (.cells #[.slice A0 su.length c0, .slice A1 0 c1, .int .i64 ((m i).q), .int .i64 ((m i).h), .int .i64 ((m i).l)] 89 (0, 0)) ∧ Below w.heap.size w w' ∧ (∀ g' o, g' ≠ g → W.heap[g']? = some o → w'.heap[g']? = some o))
    (hp : ∀ i : Nat, i < 2 → (m i).is = true → (m i).q.tmod 2 = i) (hq : ∀ i : Nat, i < 2 → 0 ≤ (m i).q)
    (hb2 : bestI m 2 = ⟨b0, bq, bh, bl⟩)
    (hdo : disk_Do.f su [] [⟨true, 0, ⟨#[]⟩⟩] = some (r1, [], er)) (hbest : 0 ≤ bq)
    (hT : ∀ W Ap cp Aq cq, Kd.C Kd.string W Ap r1.length r1 → r1.length ≤ cp → Kd.C k24 W Aq 0 ([] : List S24) → Calls Try.prog 61 #[.agg #[.slice Ap r1.length cp, .slice Aq 0 cq, .int .i64 bq, .int .i64 bh, .int .i64 bl]] W fun e w' => e = .returned (.string T) ∧ Below W.heap.size W w') :
    Calls Try.prog 35 #[.agg #[.slice A0 su.length c0, .slice A1 0 c1]] w fun e w' => ∃ v0 v1, e = .returned (.tuple #[.agg #[v0, v1, .int .i64 bq, .int .i64 bh, .int .i64 bl], .string T, .int .i64 0]) ∧ Kd.R Kd.string 9 w' w.heap.size (fun _ => True) v0 r1 ∧ Kd.R k24 24 w' w.heap.size (fun _ => True) v1 ([] : List S24) ∧ Below w.heap.size w w' := by
  have HM := Lib.hid (show ∀ W, Below w.heap.size w W → Calls Try.prog 54 #[.agg #[.slice A0 su.length c0, .slice A1 0 c1]] W fun e w' => e = .returned (.bool true) ∧ Below W.heap.size W w' from fun W h => vault_may.calls _ _ su _ c1 [] true W (Kd.C_below hsu h) hc0 (Kd.C_below hso h) (Nat.zero_le _) hmay)
  have HR := Lib.hid hR
  have HB := Lib.hid hB
  have HPP := Lib.hid (And.intro hp hq)
  have HBB := Lib.hid hb2
  have HD := Lib.hid (show ∀ W (A : Option Addr) (c : Nat), Below w.heap.size w W → Kd.C k24 W A 1 [⟨true, 0, ⟨#[]⟩⟩] → 1 ≤ c → Calls Try.prog 25 #[.agg #[.slice A0 su.length c0, .slice A1 0 c1], .slice A 1 c] W fun e w' => ∃ v0_ v1_ : Value, e = .returned (.tuple #[.agg #[v0_, v1_], .int .i64 er]) ∧ Kd.R Kd.string 9 w' W.heap.size (fun _ => True) v0_ r1 ∧ Kd.R k24 24 w' W.heap.size (fun _ => True) v1_ ([] : List S24) ∧ Below W.heap.size W w' from fun W A c h hm hc => disk_Do.calls A0 c0 su A1 c1 [] A c [⟨true, 0, ⟨#[]⟩⟩] r1 [] er W (Kd.C_below hsu h) hc0 (Kd.C_below hso h) (Nat.zero_le _) hm hc hdo)
  have HT := Lib.hid hT
  clear hdo hT
  clear hb2 hR hB hsu hso hmay hp hq
  go_enter Try.func35, Try.ntmps35
  go_wp2_with fail
  generalize hW0 : World.alloc (World.alloc w _) _ = W0
  have F1 : W0.heap[w.heap.size]? = some (.cells #[.slice A0 su.length c0, .slice A1 0 c1] 30 (0, 0)) := by rw [← hW0]; exact (boxes2 _ _).1
  have F2 : W0.heap[w.heap.size + 1]? = some (.cells #[.slice none 0 0, .slice none 0 0, .int .i64 0, .int .i64 0, .int .i64 0] 56 (0, 0)) := by rw [← hW0]; exact (boxes2 _ _).2
  have FB : Below w.heap.size w W0 := by rw [← hW0]; exact below_alloc (below_alloc (Below.refl _ _) _) _
  clear hW0
  refine (HM.out W0 FB).mono ?_
  rintro e W1 ⟨rfl, hb⟩
  have G1 := Lib.hid (blk_same F1 hb)
  have G2 := Lib.hid (blk_same F2 hb)
  have GB := Lib.hid (below_step FB hb)
  have c_0 := (blk_cell G1.out 0).trans rfl
  have c_1 := (blk_cell G1.out 1).trans rfl
  clear hb F1 F2 FB HM W0
  go_wp2_with fail
  generalize hX : World.alloc W1 _ = X
  have X1 := Lib.hid (show X.heap[w.heap.size]? = some (.cells #[.slice A0 su.length c0, .slice A1 0 c1] 30 (0, 0)) by rw [← hX]; exact bkA G1.out _)
  have X2 := Lib.hid (show X.heap[w.heap.size + 1]? = some (.cells #[.slice none 0 0, .slice none 0 0, .int .i64 0, .int .i64 0, .int .i64 0] 56 (0, 0)) by rw [← hX]; exact bkA G2.out _)
  have X5 := Lib.hid (show X.heap[W1.heap.size]? = some (.cells #[.slice A0 su.length c0, .slice A1 0 c1, .int .i64 (-1), .int .i64 (0), .int .i64 (0)] 89 (0, 0)) by rw [← hX]; exact heap_alloc_new W1 _)
  have XW := Lib.hid (show Below w.heap.size w X by rw [← hX]; exact below_alloc GB.out _)
  have hlt : w.heap.size + 1 < W1.heap.size := Go.Proofs.YtcfinlmocgbnbaaW.PrintWords.blk_lt G2.out
  clear hX c_0 c_1 G1 G2 GB
  go_loopw [20] (fun v Y => ∃ i : Nat, i ≤ 2 ∧ v = .int .i64 (i : Int) ∧ Y.heap[w.heap.size]? = some (.cells #[.slice A0 su.length c0, .slice A1 0 c1] 30 (0, 0)) ∧ Y.heap[w.heap.size + 1]? = some (.cells #[.slice none 0 0, .slice none 0 0, .int .i64 0, .int .i64 0, .int .i64 0] 56 (0, 0)) ∧ Y.heap[W1.heap.size]? = some (.cells #[.slice A0 su.length c0, .slice A1 0 c1, .int .i64 ((bestI m i).q), .int .i64 ((bestI m i).h), .int .i64 ((bestI m i).l)] 89 (0, 0)) ∧ Below w.heap.size w Y) (fun v _ => 2 - (intOf v).toNat)
  case atStart => exact ⟨0, by omega, rfl, X1.out, X2.out, X5.out, XW.out⟩
  case round =>
    clear X1 X2 X5 XW
    obtain ⟨i, hi, rfl, h1, h2, h5, hW⟩ := hrel
    by_cases hlt2 : i < 2
    · have hrd := fun W h => HR.out i hlt2 W h
      have hbk := fun W g h1 h2 h3 => HB.out i hlt2 W g h1 h2 h3
      obtain ⟨hp0, hq0⟩ := HPP.out
      replace hp0 := hp0 i hlt2
      replace hq0 := hq0 i hlt2
      have hbn : bestI m (i + 1) = better (bestI m i) (m i) := rfl
      have HRD := Lib.hid hrd
      have HBK := Lib.hid hbk
      have HBN := Lib.hid hbn
      have HP0 := Lib.hid hp0
      have HB5 := Lib.hid h5
      have HB1 := Lib.hid h1
      have HB2 := Lib.hid h2
      have HBW := Lib.hid hW
      have c_0 := (blk_cell h1 0).trans rfl
      have c_1 := (blk_cell h1 1).trans rfl
      clear hrd hbk hbn hp0 h1 h2 h5 hW HR HB HPP
      generalize bestI m i = bo at *
      generalize m i = mi at *
      generalize s i = si at *
      obtain ⟨is, mq, mh, ml⟩ := mi
      simp only at hq0 HP0 HBK
      go_wp2_with fail
      refine (HRD.out _ HBW.out).mono ?_
      rintro e W2 ⟨rfl, hb⟩
      have D1 := Lib.hid (blk_same HB1.out hb)
      have D2 := Lib.hid (blk_same HB2.out hb)
      have D5 := Lib.hid (blk_same HB5.out hb)
      have DW := Lib.hid (below_step HBW.out hb)
      clear hb HB1 HB2 HB5 HBW HRD c_0 c_1
      have c_0 := (blk_cell D1.out 0).trans rfl
      have c_1 := (blk_cell D1.out 1).trans rfl
      go_wp2_with fail
      generalize hX2 : World.alloc W2 _ = X2
      have E1 := Lib.hid (show X2.heap[w.heap.size]? = some (.cells #[.slice A0 su.length c0, .slice A1 0 c1] 30 (0, 0)) by rw [← hX2]; exact bkA D1.out _)
      have E2 := Lib.hid (show X2.heap[w.heap.size + 1]? = some (.cells #[.slice none 0 0, .slice none 0 0, .int .i64 0, .int .i64 0, .int .i64 0] 56 (0, 0)) by rw [← hX2]; exact bkA D2.out _)
      have E5 := Lib.hid (show X2.heap[W1.heap.size]? = some (.cells #[.slice A0 su.length c0, .slice A1 0 c1, .int .i64 (bo.q), .int .i64 (bo.h), .int .i64 (bo.l)] 89 (0, 0)) by rw [← hX2]; exact bkA D5.out _)
      have E9 := Lib.hid (show X2.heap[W2.heap.size]? = some (.cells #[.slice A0 su.length c0, .slice A1 0 c1, .int .i64 (0), .int .i64 (0), .int .i64 (0)] 89 (0, 0)) by rw [← hX2]; exact heap_alloc_new W2 _)
      have EW := Lib.hid (show Below w.heap.size w X2 by rw [← hX2]; exact below_alloc DW.out _)
      have l5 : W1.heap.size < W2.heap.size := Go.Proofs.YtcfinlmocgbnbaaW.PrintWords.blk_lt D5.out
      clear hX2 c_0 c_1 D1 D2 D5 DW
      refine (HBK.out X2 W2.heap.size EW.out (by omega) E9.out).mono ?_
      rintro e W3 ⟨rfl, hb9, hbw, hot⟩
      have I1 := Lib.hid (hot _ _ (by omega) E1.out)
      have I2 := Lib.hid (hot _ _ (by omega) E2.out)
      have I5 := Lib.hid (hot _ _ (by omega) E5.out)
      have I9 := Lib.hid hb9
      have IW := Lib.hid hbw
      have b_2 := (blk_cell I9.out 2).trans rfl
      have o_2 := (blk_cell I5.out 2).trans rfl
      clear hb9 hbw hot E1 E2 E5 E9 EW HBK
      cases is with
      | false =>
        have hne : ¬ (false = true ∧ bo.q < mq) := by simp
        have HE := Lib.hid (show bestI m (i + 1) = bo by rw [HBN.out]; unfold better; rw [if_neg hne])
        go_wp2
        go_roundw
        case rel => exact ⟨i + 1, by omega, congrArg (Value.int .i64) (by omega), I1.out, I2.out, by rw [HE.out]; exact I5.out, IW.out⟩
        case measure => simp [intOf]; omega
      | true =>
        have hpe : mq.tmod 2 = (i : Int) := HP0.out rfl
        have hpf : mq % 2 = (i : Int) := by rw [← hpe]; exact (Int.tmod_eq_emod_of_nonneg hq0).symm
        by_cases hgt : bo.q < mq
        · have HE := Lib.hid (show bestI m (i + 1) = ⟨true, mq, mh, ml⟩ by rw [HBN.out]; unfold better; rw [if_pos ⟨rfl, hgt⟩])
          have b_0 := (blk_cell I9.out 0).trans rfl
          have b_1 := (blk_cell I9.out 1).trans rfl
          have b_3 := (blk_cell I9.out 3).trans rfl
          have b_4 := (blk_cell I9.out 4).trans rfl
          have o_0 := (blk_cell I5.out 0).trans rfl
          have o_1 := (blk_cell I5.out 1).trans rfl
          have o_3 := (blk_cell I5.out 3).trans rfl
          have o_4 := (blk_cell I5.out 4).trans rfl
          have f_0 := blk_frozen I5.out 0
          have f_1 := blk_frozen I5.out 1
          have f_2 := blk_frozen I5.out 2
          have f_3 := blk_frozen I5.out 3
          have f_4 := blk_frozen I5.out 4
          go_wp2
          go_roundw
          case rel => exact ⟨i + 1, by omega, congrArg (Value.int .i64) (by omega), br5 I1.out (am (by omega)), br5 I2.out (am (by omega)), by rw [HE.out]; exact bp5 I5.out, below_set (below_set (below_set (below_set (below_set IW.out (by omega)) (by omega)) (by omega)) (by omega)) (by omega)⟩
          case measure => simp [intOf]; omega
        · have hne : ¬ (true = true ∧ bo.q < mq) := by simp [hgt]
          have HE := Lib.hid (show bestI m (i + 1) = bo by rw [HBN.out]; unfold better; rw [if_neg hne])
          go_wp2
          go_roundw
          case rel => exact ⟨i + 1, by omega, congrArg (Value.int .i64) (by omega), I1.out, I2.out, by rw [HE.out]; exact I5.out, IW.out⟩
          case measure => simp [intOf]; omega
    · obtain rfl : i = 2 := by omega
      rw [HBB.out] at h5
      dsimp only at h5
      have C1 := am h1
      have C2 := am h2
      have C5 := am h5
      have CW := am hW
      have c1_0 := (blk_cell h1 0).trans rfl
      have c1_1 := (blk_cell h1 1).trans rfl
      have c5_2 := (blk_cell h5 2).trans rfl
      clear h1 h2 h5 hW HR HB HPP
      have hnb : ¬ bq < 0 := by omega
      go_wp2_with (first | ((with_reducible refine gate_dst (N := 70) rfl ?_); refine Kd.R_lit k24 _ 24 ?hg (N := 70) ?hd (xs := ([(⟨true, 0, (⟨#[]⟩ : ByteArray)⟩ : S24)] : List S24)) (inner := [.bool true, .int .i64 0, .string ⟨#[]⟩]) (ok := fun _ => True) (okp := fun _ => True) ?hr ?hp (fun _ hk => hk) trivial (Below.refl _ _) (Nat.le_refl _) (by simp) ?_; (case hd => rfl); (case hg => rfl); (case hr => first | (go_simp; done) | (go_simp; rfl)); (case hp => exact (Reps.c3 (show Kd.M k24 _ _ _ (⟨true, 0, (⟨#[]⟩ : ByteArray)⟩ : S24) [.bool true, .int .i64 0, .string (⟨#[]⟩ : ByteArray)] from (k24_mkM _ _ _ (⟨true, 0, (⟨#[]⟩ : ByteArray)⟩ : S24))) (Reps.none _ _))); intro vl W4 hol hb hg_ hnew_; clear hg_ hnew_ c1_0 c1_1 c5_2; obtain ⟨Al, cl, el⟩ := Kd.R_slice hol; subst el; have HLL := Lib.hid (Kd.R_reads' hol).2.2; have HLC := Lib.hid (Kd.R_reads' hol).2.1; have m1_ := am (blk_same C1.out hb); have m2_ := am (blk_same C2.out hb); have m5_ := am (blk_same C5.out hb); have mW_ := am (below_step CW.out hb); clear C1 C2 C5 CW hol hb; have C1 := m1_; have C2 := m2_; have C5 := m5_; have CW := mW_; clear m1_ m2_ m5_ mW_))
      refine (HD.out _ Al cl CW.out HLL.out HLC.out).mono ?_
      rintro e W5 ⟨v0, v1, rfl, h0, h1, hb⟩
      obtain ⟨Ap, cp, ep⟩ := Kd.R_slice h0
      subst ep
      obtain ⟨Aq, cq, eq⟩ := Kd.R_slice h1
      subst eq
      have R0 := am (Kd.R_lower h0 CW.out.size)
      have R1 := am (Kd.R_lower h1 CW.out.size)
      have m2_ := am (blk_same C2.out hb); have m5_ := am (blk_same C5.out hb); have mW_ := am (below_step CW.out hb); clear C1 C2 C5 CW h0 h1 hb HLL HLC HD; have C2 := m2_; have C5 := m5_; have CW := mW_; clear m2_ m5_ mW_
      have c5_0 := (blk_cell C5.out 0).trans rfl
      have c5_1 := (blk_cell C5.out 1).trans rfl
      have f5_0 := blk_frozen C5.out 0
      have f5_1 := blk_frozen C5.out 1
      go_wp2_with fail
      have D5 : Aside0 (((W5.setCell ⟨W1.heap.size, 0, none⟩ (.slice Ap r1.length cp)).setCell ⟨W1.heap.size, 1, none⟩ (.slice Aq ([] : List S24).length cq)).heap[W1.heap.size]? = some (.cells #[.slice Ap r1.length cp, .slice Aq 0 cq, .int .i64 bq, .int .i64 bh, .int .i64 bl] 89 (0, 0))) := am (blk_put (cs := #[.slice Ap r1.length cp, .slice A1 0 c1, .int .i64 bq, .int .i64 bh, .int .i64 bl]) (blk_put (cs := #[.slice A0 su.length c0, .slice A1 0 c1, .int .i64 bq, .int .i64 bh, .int .i64 bl]) C5.out 0 _ rfl) 1 _ rfl)
      have D2 := am (blk_far (p := ⟨W1.heap.size, 1, none⟩) (blk_far (p := ⟨W1.heap.size, 0, none⟩) C2.out (show w.heap.size + 1 ≠ W1.heap.size by omega) (.slice Ap r1.length cp)) (show w.heap.size + 1 ≠ W1.heap.size by omega) (.slice Aq ([] : List S24).length cq))
      have Q0 := am (rs2 (v0 := .slice Ap r1.length cp) (v1 := .slice Aq ([] : List S24).length cq) R0 C5 (by decide))
      have Q1 := am (rs2 (v0 := .slice Ap r1.length cp) (v1 := .slice Aq ([] : List S24).length cq) R1 C5 (by decide))
      have DW := am (below_set (below_set CW.out (show w.heap.size ≤ W1.heap.size by omega) (j := 0) (v := .slice Ap r1.length cp)) (show w.heap.size ≤ W1.heap.size by omega) (j := 1) (v := .slice Aq ([] : List S24).length cq))
      clear C2 C5 CW R0 R1 c5_0 c5_1 f5_0 f5_1
      simp only [List.length_nil] at D5 D2 Q0 Q1 DW
      generalize (W5.setCell ⟨W1.heap.size, 0, none⟩ (.slice Ap r1.length cp)).setCell ⟨W1.heap.size, 1, none⟩ (.slice Aq 0 cq) = Z at *
      have C2 := am (Go.Proofs.YtcfinlmocgbnbaaW.PrintWords.bkD D2.out)
      have C5 := am (Go.Proofs.YtcfinlmocgbnbaaW.PrintWords.bkD D5.out)
      have CW := am (below_step DW.out (below_drew1 (Below.refl Z.heap.size Z)))
      have R0 := am (Kd.R_drew Q0.out)
      have R1 := am (Kd.R_drew Q1.out)
      clear D2 D5 DW Q0 Q1
      refine start_ (n := 7) (S := fun w' => w'.cell? ⟨W1.heap.size, 0, none⟩ = some (.slice Ap r1.length cp) ∧ w'.cell? ⟨W1.heap.size, 1, none⟩ = some (.slice Aq 0 cq) ∧ w'.cell? ⟨W1.heap.size, 2, none⟩ = some (.int .i64 bq) ∧ w'.cell? ⟨W1.heap.size, 3, none⟩ = some (.int .i64 bh) ∧ w'.cell? ⟨W1.heap.size, 4, none⟩ = some (.int .i64 bl)) (ds := [4]) #[false, false, false, false, false, false, false] (by kernel_rfl) rfl rfl (bc5 C5) (fun hHeld => ?_); refine with_tabW vop.tab18 vop.bits18 (fun HT_ HW_ => ?_)
      generalize Z.drew = W9 at C2 C5 CW R0 R1 hHeld ⊢
      refine pu_ 0 (some 76) HT_ rfl rfl (.inl ⟨by rfl, by intro w'; go_simp; with_reducible rfl⟩) (by simp only [Act.put, sa_, s0_, s1_, i64_w, i32_w]; rfl) ?_
      refine tk_ 1 (some 77) HT_ HW_ rfl rfl (.inl ⟨by rfl, by rintro w' ⟨s0, s1, s2, s3, s4⟩; go_simp; with_reducible rfl⟩) hHeld (by simp only [Act.put, sa_, s0_, s1_, i64_w, i32_w]; rfl) ?_
      refine tk_ 2 (some 78) HT_ HW_ rfl rfl (.inl ⟨by rfl, by rintro w' ⟨s0, s1, s2, s3, s4⟩; go_simp; with_reducible rfl⟩) hHeld (by simp only [Act.put, sa_, s0_, s1_, i64_w, i32_w]; rfl) ?_
      refine on_ 3 (some 79) HT_ rfl rfl (fun K hK => ?_)
      refine goes_ Try.func61 (by kernel_rfl) rfl #[.agg #[.slice Ap r1.length cp, .slice Aq 0 cq, .int .i64 bq, .int .i64 bh, .int .i64 bl]] (by rfl) rfl rfl (by (try simp only [List.map_toArray, List.map_cons, List.map_nil]) <;> rfl) ?_
      refine (HT.out _ Ap cp Aq cq (Kd.R_reads' R0.out).2.2 (Kd.R_reads' R0.out).2.1 (Kd.R_reads' R1.out).2.2).mono ?_
      rintro e W5 ⟨rfl, hb⟩
      refine ⟨_, rfl, ?_⟩
      have m0_ := am (blk_same C2.out hb); have m1_ := am (blk_same C5.out hb); have m2_ := am (below_step CW.out hb); have m3_ := am (Kd.R_below R0.out hb); have m4_ := am (Kd.R_below R1.out hb); clear C2 C5 CW R0 R1; have C2 := m0_; have C5 := m1_; have CW := m2_; have R0 := m3_; have R1 := m4_; clear m0_ m1_ m2_ m3_ m4_ hb
      refine hK.out _ _ (bc5 C5) (fun hHeld => ?_)
      clear hK K
      refine norm_ (by show Act.put _ (some 79) _ = _; simp only [Act.put, sa_, s0_, s1_, i64_w, i32_w]; rfl) ?_
      refine la_ 4 none HT_ rfl rfl (fun K hK => ?_)
      have hc0 := (blk_cell C2.out 0).trans rfl; have hf0 := blk_frozen C2.out 0
      have hc1 := (blk_cell C2.out 1).trans rfl; have hf1 := blk_frozen C2.out 1
      have hc2 := (blk_cell C2.out 2).trans rfl; have hf2 := blk_frozen C2.out 2
      have hc3 := (blk_cell C2.out 3).trans rfl; have hf3 := blk_frozen C2.out 3
      have hc4 := (blk_cell C2.out 4).trans rfl; have hf4 := blk_frozen C2.out 4
      refine skip_ (by rfl) rfl (by go_simp; rfl) ?_
      clear hc0 hc1 hc2 hc3 hc4 hf0 hf1 hf2 hf3 hf4
      refine hK.out _ _ ?_
      clear hK K
      refine pu_ 5 (some 3) HT_ rfl rfl (.inl ⟨by rfl, by intro w'; go_simp; with_reducible rfl⟩) (by simp only [Act.put, sa_, s0_, s1_, i64_w, i32_w]; rfl) ?_
      refine pu_ 6 (some 4) HT_ rfl rfl (.inl ⟨by rfl, by intro w'; go_simp; with_reducible rfl⟩) (by simp only [Act.put, sa_, s0_, s1_, i64_w, i32_w]; rfl) ?_
      refine done_ (done_of HT_.out (by kernel_rfl)) ?_
      go_wp2
      have e2 := bp5 (a' := .slice Ap r1.length cp) (b' := .slice Aq 0 cq) (c' := .int .i64 bq) (d' := .int .i64 bh) (e' := .int .i64 bl) C2.out
      exact bodyPost_ret (XB.resultsX_list (rs := [.cell 2 56, .tmp 3, .tmp 4]) rfl (by simp) (.cell (w.heap.size + 1) 56 #[.slice Ap r1.length cp, .slice Aq 0 cq, .int .i64 bq, .int .i64 bh, .int .i64 bl] (0, 0) _ rfl e2 Try.underlying56 rfl (by kernel_rfl) (.tmp (.tmp .nil)))) rfl ⟨_, _, rfl, rs5 R0 C2 (by decide), rs5 R1 C2 (by decide), below_set (below_set (below_set (below_set (below_set CW.out (by omega)) (by omega)) (by omega)) (by omega)) (by omega)⟩
set_option maxHeartbeats 8000000 in
theorem vopen_none {su r1 : List ByteArray} {A0 A1 : Option Addr} {c0 c1 : Nat} {er bq bh bl : Int} {b0 : Bool} {T : ByteArray} (s : Nat → ByteArray) (m : Nat → HdI) (w : World)
    (hsu : Kd.C Kd.string w A0 su.length su) (hc0 : su.length ≤ c0) (hso : Kd.C k24 w A1 0 ([] : List S24)) (hmay : vault_may.f su [] = some true) (hlen : su.length < 8796093022208)
    (hR : ∀ i : Nat, i < 2 → ∀ W, Below w.heap.size w W → Calls Try.prog 22 #[.agg #[.slice A0 su.length c0, .slice A1 0 c1], .int .i64 (i : Int)] W fun e w' => e = .returned (.tuple #[.string (s i), .int .i64 0]) ∧ Below W.heap.size W w')
    (hB : ∀ i : Nat, i < 2 → ∀ W g, Below w.heap.size w W → w.heap.size ≤ g → W.heap[g]? = some (.cells #[.slice A0 su.length c0, .slice A1 0 c1, .int .i64 (0), .int .i64 (0), .int .i64 (0)] 89 (0, 0)) → Calls Try.prog 60 #[.pointer (some ⟨g, 0, none⟩), .string (s i)] W fun e w' => e = .returned (.bool (m i).is) ∧ w'.heap[g]? = some (.cells #[.slice A0 su.length c0, .slice A1 0 c1, .int .i64 ((m i).q), .int .i64 ((m i).h), .int .i64 ((m i).l)] 89 (0, 0)) ∧ Below w.heap.size w w' ∧ (∀ g' o, g' ≠ g → W.heap[g']? = some o → w'.heap[g']? = some o))
    (hp : ∀ i : Nat, i < 2 → (m i).is = true → (m i).q.tmod 2 = i) (hq : ∀ i : Nat, i < 2 → 0 ≤ (m i).q)
    (hb2 : bestI m 2 = ⟨b0, bq, bh, bl⟩)
    (hbest : bq < 0) :
    Calls Try.prog 35 #[.agg #[.slice A0 su.length c0, .slice A1 0 c1]] w fun e w' => ∃ v0 v1, e = .returned (.tuple #[.agg #[v0, v1, .int .i64 0, .int .i64 0, .int .i64 0], .string ⟨#[]⟩, .int .i64 25]) ∧ Kd.R Kd.string 9 w' w.heap.size (fun _ => True) v0 su ∧ Kd.R k24 24 w' w.heap.size (fun _ => True) v1 ([] : List S24) ∧ Below w.heap.size w w' := by
  have HM := Lib.hid (show ∀ W, Below w.heap.size w W → Calls Try.prog 54 #[.agg #[.slice A0 su.length c0, .slice A1 0 c1]] W fun e w' => e = .returned (.bool true) ∧ Below W.heap.size W w' from fun W h => vault_may.calls _ _ su _ c1 [] true W (Kd.C_below hsu h) hc0 (Kd.C_below hso h) (Nat.zero_le _) hmay)
  have HR := Lib.hid hR
  have HB := Lib.hid hB
  have HPP := Lib.hid (And.intro hp hq)
  have HBB := Lib.hid hb2
  have HD := Lib.hid (show ∀ W, Below w.heap.size w W → Calls Try.prog 55 #[.agg #[.slice A0 su.length c0, .slice A1 0 c1]] W fun e w' => ∃ v0_ v1_ : Value, e = .returned (.agg #[v0_, v1_]) ∧ Kd.R Kd.string 9 w' W.heap.size (fun _ => True) v0_ su ∧ Kd.R k24 24 w' W.heap.size (fun _ => True) v1_ ([] : List S24) ∧ Below W.heap.size W w' from fun W h => vault_own.calls A0 c0 su A1 c1 [] su [] W (Kd.C_below hsu h) hc0 (Kd.C_below hso h) (Nat.zero_le _) (own_f ⟨hlen, by simp⟩))
  clear hb2 hR hB hsu hso hmay hp hq
  go_enter Try.func35, Try.ntmps35
  go_wp2_with fail
  generalize hW0 : World.alloc (World.alloc w _) _ = W0
  have F1 : W0.heap[w.heap.size]? = some (.cells #[.slice A0 su.length c0, .slice A1 0 c1] 30 (0, 0)) := by rw [← hW0]; exact (boxes2 _ _).1
  have F2 : W0.heap[w.heap.size + 1]? = some (.cells #[.slice none 0 0, .slice none 0 0, .int .i64 0, .int .i64 0, .int .i64 0] 56 (0, 0)) := by rw [← hW0]; exact (boxes2 _ _).2
  have FB : Below w.heap.size w W0 := by rw [← hW0]; exact below_alloc (below_alloc (Below.refl _ _) _) _
  clear hW0
  refine (HM.out W0 FB).mono ?_
  rintro e W1 ⟨rfl, hb⟩
  have G1 := Lib.hid (blk_same F1 hb)
  have G2 := Lib.hid (blk_same F2 hb)
  have GB := Lib.hid (below_step FB hb)
  have c_0 := (blk_cell G1.out 0).trans rfl
  have c_1 := (blk_cell G1.out 1).trans rfl
  clear hb F1 F2 FB HM W0
  go_wp2_with fail
  generalize hX : World.alloc W1 _ = X
  have X1 := Lib.hid (show X.heap[w.heap.size]? = some (.cells #[.slice A0 su.length c0, .slice A1 0 c1] 30 (0, 0)) by rw [← hX]; exact bkA G1.out _)
  have X2 := Lib.hid (show X.heap[w.heap.size + 1]? = some (.cells #[.slice none 0 0, .slice none 0 0, .int .i64 0, .int .i64 0, .int .i64 0] 56 (0, 0)) by rw [← hX]; exact bkA G2.out _)
  have X5 := Lib.hid (show X.heap[W1.heap.size]? = some (.cells #[.slice A0 su.length c0, .slice A1 0 c1, .int .i64 (-1), .int .i64 (0), .int .i64 (0)] 89 (0, 0)) by rw [← hX]; exact heap_alloc_new W1 _)
  have XW := Lib.hid (show Below w.heap.size w X by rw [← hX]; exact below_alloc GB.out _)
  have hlt : w.heap.size + 1 < W1.heap.size := Go.Proofs.YtcfinlmocgbnbaaW.PrintWords.blk_lt G2.out
  clear hX c_0 c_1 G1 G2 GB
  go_loopw [20] (fun v Y => ∃ i : Nat, i ≤ 2 ∧ v = .int .i64 (i : Int) ∧ Y.heap[w.heap.size]? = some (.cells #[.slice A0 su.length c0, .slice A1 0 c1] 30 (0, 0)) ∧ Y.heap[w.heap.size + 1]? = some (.cells #[.slice none 0 0, .slice none 0 0, .int .i64 0, .int .i64 0, .int .i64 0] 56 (0, 0)) ∧ Y.heap[W1.heap.size]? = some (.cells #[.slice A0 su.length c0, .slice A1 0 c1, .int .i64 ((bestI m i).q), .int .i64 ((bestI m i).h), .int .i64 ((bestI m i).l)] 89 (0, 0)) ∧ Below w.heap.size w Y) (fun v _ => 2 - (intOf v).toNat)
  case atStart => exact ⟨0, by omega, rfl, X1.out, X2.out, X5.out, XW.out⟩
  case round =>
    clear X1 X2 X5 XW
    obtain ⟨i, hi, rfl, h1, h2, h5, hW⟩ := hrel
    by_cases hlt2 : i < 2
    · have hrd := fun W h => HR.out i hlt2 W h
      have hbk := fun W g h1 h2 h3 => HB.out i hlt2 W g h1 h2 h3
      obtain ⟨hp0, hq0⟩ := HPP.out
      replace hp0 := hp0 i hlt2
      replace hq0 := hq0 i hlt2
      have hbn : bestI m (i + 1) = better (bestI m i) (m i) := rfl
      have HRD := Lib.hid hrd
      have HBK := Lib.hid hbk
      have HBN := Lib.hid hbn
      have HP0 := Lib.hid hp0
      have HB5 := Lib.hid h5
      have HB1 := Lib.hid h1
      have HB2 := Lib.hid h2
      have HBW := Lib.hid hW
      have c_0 := (blk_cell h1 0).trans rfl
      have c_1 := (blk_cell h1 1).trans rfl
      clear hrd hbk hbn hp0 h1 h2 h5 hW HR HB HPP
      generalize bestI m i = bo at *
      generalize m i = mi at *
      generalize s i = si at *
      obtain ⟨is, mq, mh, ml⟩ := mi
      simp only at hq0 HP0 HBK
      go_wp2_with fail
      refine (HRD.out _ HBW.out).mono ?_
      rintro e W2 ⟨rfl, hb⟩
      have D1 := Lib.hid (blk_same HB1.out hb)
      have D2 := Lib.hid (blk_same HB2.out hb)
      have D5 := Lib.hid (blk_same HB5.out hb)
      have DW := Lib.hid (below_step HBW.out hb)
      clear hb HB1 HB2 HB5 HBW HRD c_0 c_1
      have c_0 := (blk_cell D1.out 0).trans rfl
      have c_1 := (blk_cell D1.out 1).trans rfl
      go_wp2_with fail
      generalize hX2 : World.alloc W2 _ = X2
      have E1 := Lib.hid (show X2.heap[w.heap.size]? = some (.cells #[.slice A0 su.length c0, .slice A1 0 c1] 30 (0, 0)) by rw [← hX2]; exact bkA D1.out _)
      have E2 := Lib.hid (show X2.heap[w.heap.size + 1]? = some (.cells #[.slice none 0 0, .slice none 0 0, .int .i64 0, .int .i64 0, .int .i64 0] 56 (0, 0)) by rw [← hX2]; exact bkA D2.out _)
      have E5 := Lib.hid (show X2.heap[W1.heap.size]? = some (.cells #[.slice A0 su.length c0, .slice A1 0 c1, .int .i64 (bo.q), .int .i64 (bo.h), .int .i64 (bo.l)] 89 (0, 0)) by rw [← hX2]; exact bkA D5.out _)
      have E9 := Lib.hid (show X2.heap[W2.heap.size]? = some (.cells #[.slice A0 su.length c0, .slice A1 0 c1, .int .i64 (0), .int .i64 (0), .int .i64 (0)] 89 (0, 0)) by rw [← hX2]; exact heap_alloc_new W2 _)
      have EW := Lib.hid (show Below w.heap.size w X2 by rw [← hX2]; exact below_alloc DW.out _)
      have l5 : W1.heap.size < W2.heap.size := Go.Proofs.YtcfinlmocgbnbaaW.PrintWords.blk_lt D5.out
      clear hX2 c_0 c_1 D1 D2 D5 DW
      refine (HBK.out X2 W2.heap.size EW.out (by omega) E9.out).mono ?_
      rintro e W3 ⟨rfl, hb9, hbw, hot⟩
      have I1 := Lib.hid (hot _ _ (by omega) E1.out)
      have I2 := Lib.hid (hot _ _ (by omega) E2.out)
      have I5 := Lib.hid (hot _ _ (by omega) E5.out)
      have I9 := Lib.hid hb9
      have IW := Lib.hid hbw
      have b_2 := (blk_cell I9.out 2).trans rfl
      have o_2 := (blk_cell I5.out 2).trans rfl
      clear hb9 hbw hot E1 E2 E5 E9 EW HBK
      cases is with
      | false =>
        have hne : ¬ (false = true ∧ bo.q < mq) := by simp
        have HE := Lib.hid (show bestI m (i + 1) = bo by rw [HBN.out]; unfold better; rw [if_neg hne])
        go_wp2
        go_roundw
        case rel => exact ⟨i + 1, by omega, congrArg (Value.int .i64) (by omega), I1.out, I2.out, by rw [HE.out]; exact I5.out, IW.out⟩
        case measure => simp [intOf]; omega
      | true =>
        have hpe : mq.tmod 2 = (i : Int) := HP0.out rfl
        have hpf : mq % 2 = (i : Int) := by rw [← hpe]; exact (Int.tmod_eq_emod_of_nonneg hq0).symm
        by_cases hgt : bo.q < mq
        · have HE := Lib.hid (show bestI m (i + 1) = ⟨true, mq, mh, ml⟩ by rw [HBN.out]; unfold better; rw [if_pos ⟨rfl, hgt⟩])
          have b_0 := (blk_cell I9.out 0).trans rfl
          have b_1 := (blk_cell I9.out 1).trans rfl
          have b_3 := (blk_cell I9.out 3).trans rfl
          have b_4 := (blk_cell I9.out 4).trans rfl
          have o_0 := (blk_cell I5.out 0).trans rfl
          have o_1 := (blk_cell I5.out 1).trans rfl
          have o_3 := (blk_cell I5.out 3).trans rfl
          have o_4 := (blk_cell I5.out 4).trans rfl
          have f_0 := blk_frozen I5.out 0
          have f_1 := blk_frozen I5.out 1
          have f_2 := blk_frozen I5.out 2
          have f_3 := blk_frozen I5.out 3
          have f_4 := blk_frozen I5.out 4
          go_wp2
          go_roundw
          case rel => exact ⟨i + 1, by omega, congrArg (Value.int .i64) (by omega), br5 I1.out (am (by omega)), br5 I2.out (am (by omega)), by rw [HE.out]; exact bp5 I5.out, below_set (below_set (below_set (below_set (below_set IW.out (by omega)) (by omega)) (by omega)) (by omega)) (by omega)⟩
          case measure => simp [intOf]; omega
        · have hne : ¬ (true = true ∧ bo.q < mq) := by simp [hgt]
          have HE := Lib.hid (show bestI m (i + 1) = bo by rw [HBN.out]; unfold better; rw [if_neg hne])
          go_wp2
          go_roundw
          case rel => exact ⟨i + 1, by omega, congrArg (Value.int .i64) (by omega), I1.out, I2.out, by rw [HE.out]; exact I5.out, IW.out⟩
          case measure => simp [intOf]; omega
    · obtain rfl : i = 2 := by omega
      rw [HBB.out] at h5
      dsimp only at h5
      have C1 := am h1
      have C2 := am h2
      have C5 := am h5
      have CW := am hW
      have c1_0 := (blk_cell h1 0).trans rfl
      have c1_1 := (blk_cell h1 1).trans rfl
      have c5_2 := (blk_cell h5 2).trans rfl
      clear h1 h2 h5 hW HR HB HPP
      go_wp2_with fail
      refine (HD.out _ CW.out).mono ?_
      rintro e W5 ⟨v0, v1, rfl, h0, h1, hb⟩
      obtain ⟨Ap, cp, ep⟩ := Kd.R_slice h0
      subst ep
      obtain ⟨Aq, cq, eq⟩ := Kd.R_slice h1
      subst eq
      have R0 := am (Kd.R_lower h0 CW.out.size)
      have R1 := am (Kd.R_lower h1 CW.out.size)
      have m2_ := am (blk_same C2.out hb); have mW_ := am (below_step CW.out hb); clear C2 C5 CW h0 h1 hb HD C1 c1_0 c1_1 c5_2; have C2 := m2_; have CW := mW_; clear m2_ mW_
      have e_0 := (blk_cell C2.out 0).trans rfl
      have g_0 := blk_frozen C2.out 0
      have e_1 := (blk_cell C2.out 1).trans rfl
      have g_1 := blk_frozen C2.out 1
      have e_2 := (blk_cell C2.out 2).trans rfl
      have g_2 := blk_frozen C2.out 2
      have e_3 := (blk_cell C2.out 3).trans rfl
      have g_3 := blk_frozen C2.out 3
      have e_4 := (blk_cell C2.out 4).trans rfl
      have g_4 := blk_frozen C2.out 4
      generalize su.length = l1 at *
      generalize ([] : List S24).length = l2 at *
      go_wp2
      have e2 := bp5 (a' := .slice Ap l1 cp) (b' := .slice Aq l2 cq) (c' := .int .i64 0) (d' := .int .i64 0) (e' := .int .i64 0) C2.out
      exact bodyPost_ret (XB.resultsX_list (rs := [.cell 2 56, .tmp 3, .tmp 4]) rfl (by simp) (.cell (w.heap.size + 1) 56 #[.slice Ap l1 cp, .slice Aq l2 cq, .int .i64 0, .int .i64 0, .int .i64 0] (0, 0) _ rfl e2 Try.underlying56 rfl (by kernel_rfl) (.tmp (.tmp .nil)))) rfl ⟨_, _, rfl, rs5 R0 C2 (by decide), rs5 R1 C2 (by decide), below_set (below_set (below_set (below_set (below_set CW.out (by omega)) (by omega)) (by omega)) (by omega)) (by omega)⟩
end Go.Proofs.Ytcfinlmocgbnbaa.Pr
end
