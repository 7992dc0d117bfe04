/-
  The law MacLong: walked. Condition: the words of the rounds lie where the program has them; the numbers are int's.
-/
import Derived.Test.YtajaobebcmlhaaaDoorBegins
import Derived.Test.YtajaobebcmlhaaaDoorLong
namespace Go.Proofs.YtajaobebcmlhaaaDoor.Pr
open Go.RowKit Go.Shelf Go.Proofs.YtajaobebcmlhaaaDoor.XB Go.Proofs.Sha Go.Proofs.YtajaobebcmlhaaaDoorW.PrintWords
attribute [local go_sem] Oper.semAt_some
set_option linter.unusedVariables false
set_option linter.unusedSimpArgs false
instance (W : World) (o : Obj) : Two W ((W.alloc o).drew) := ⟨below_drew1 (below_alloc (Below.refl _ _) _)⟩
instance (W : World) : Two W W := ⟨Below.refl _ _⟩
instance (W : World) (o p : Obj) : Two W ((W.alloc o).drew.alloc p) := ⟨below_alloc (below_drew1 (below_alloc (Below.refl _ _) _)) _⟩
/-- A key of so many noughts. -/
theorem long_mac (a : Nat) (ha : a ≤ 1002) : ∃ A r, macH (zs a) ⟨#[120]⟩ = (A, r) ∧ ((a ≤ 1000 ∧ r = 0) ∨ (1000 < a ∧ r = 1)) := by
  by_cases h : a ≤ 1000
  · exact ⟨_, _, macH_ok _ _ (by rw [zs_size]; exact h) (by show 1 ≤ _; omega), .inl ⟨h, rfl⟩⟩
  · exact ⟨_, 1, by unfold macH; rw [if_pos (by rw [zs_size]; omega)], .inr ⟨by omega, rfl⟩⟩
theorem long_der (a b : Nat) : ∃ A r, derH (zs a) (zs b) 3 = (A, r) ∧ ((a ≤ 1000 ∧ b ≤ 1000 ∧ r = 0) ∨ (¬ (a ≤ 1000 ∧ b ≤ 1000) ∧ r = 1)) := by
  by_cases h : a ≤ 1000 ∧ b ≤ 1000
  · obtain ⟨e, _⟩ := derH_ok (zs a) (zs b) 3 (by rw [zs_size]; exact h.1) (by rw [zs_size]; exact h.2) (by omega)
    exact ⟨_, _, e, .inl ⟨h.1, h.2, rfl⟩⟩
  · exact ⟨_, 1, by unfold derH; rw [if_neg (by rintro ⟨⟨h1, h2⟩, _⟩; rw [zs_size] at h1 h2; exact h ⟨h1, h2⟩)], .inr ⟨h, rfl⟩⟩
theorem long_n (c : Nat) (hc : c ≤ 4098) : ∃ A r, derH ⟨#[107, 101, 121]⟩ ⟨#[110, 97, 109, 101]⟩ (c : Int) = (A, r) ∧ ((c ≤ 4096 ∧ r = 0 ∧ A.size = c) ∨ (4096 < c ∧ r = 1 ∧ A = ⟨#[]⟩)) := by
  by_cases h : c ≤ 4096
  · obtain ⟨e, e2⟩ := derH_ok ⟨#[107, 101, 121]⟩ ⟨#[110, 97, 109, 101]⟩ c (by show 3 ≤ _; omega) (by show 4 ≤ _; omega) h
    exact ⟨_, _, e, .inl ⟨h, rfl, e2⟩⟩
  · exact ⟨_, 1, by unfold derH; rw [if_neg (by rintro ⟨_, _, h2⟩; omega)]; rfl, .inr ⟨by omega, rfl, rfl⟩⟩
set_option maxRecDepth 100000 in
set_option maxHeartbeats 4000000 in
theorem mlong_calls (x y z : Int) (w : World) (hG : Tbl w) (hx0 : -9223372036854775808 ≤ x) (hx1 : x ≤ 9223372036854775807) (hy0 : -9223372036854775808 ≤ y) (hy1 : y ≤ 9223372036854775807) (hz0 : -9223372036854775808 ≤ z) (hz1 : z ≤ 9223372036854775807) :
    Calls Tryd.prog 13 #[.int .i64 x, .int .i64 y, .int .i64 z] w fun e w' => e = .returned (.bool true) ∧ Below w.heap.size w w' := by
  have HG := Lib.hid hG
  clear hG
  obtain ⟨p, hp, hp1⟩ : ∃ p : Nat, pickN x 5 = (p : Int) ∧ p < 5 := ⟨(pickN x 5).toNat, by unfold pickN; omega, by unfold pickN; omega⟩
  obtain ⟨q, hq, hq1⟩ : ∃ q : Nat, pickN y 5 = (q : Int) ∧ q < 5 := ⟨(pickN y 5).toNat, by unfold pickN; omega, by unfold pickN; omega⟩
  obtain ⟨r, hr, hr1⟩ : ∃ r : Nat, pickN z 5 = (r : Int) ∧ r < 5 := ⟨(pickN z 5).toNat, by unfold pickN; omega, by unfold pickN; omega⟩
  have hpc := fun W => pick2_calls x 5 W hx0 hx1 (by omega) (by omega)
  have hqc := fun W => pick2_calls y 5 W hy0 hy1 (by omega) (by omega)
  have hrc := fun W => pick2_calls z 5 W hz0 hz1 (by omega) (by omega)
  rw [hp] at hpc
  rw [hq] at hqc
  rw [hr] at hrc
  have HPC := Lib.hid hpc
  have HQC := Lib.hid hqc
  have HRC := Lib.hid hrc
  clear hpc hqc hrc hp hq hr
  obtain ⟨a, ha⟩ : ∃ a : Nat, (998 : Int) + (p : Int) = (a : Int) := ⟨998 + p, by omega⟩
  obtain ⟨b, hb⟩ : ∃ b : Nat, (998 : Int) + (q : Int) = (b : Int) := ⟨998 + q, by omega⟩
  obtain ⟨c, hc⟩ : ∃ c : Nat, (4094 : Int) + (r : Int) = (c : Int) := ⟨4094 + r, by omega⟩
  obtain ⟨A, r1, a1, a2⟩ := long_mac a (by omega)
  obtain ⟨B, r2, b1, b2⟩ := long_der a b
  obtain ⟨C, r3, c1, c2⟩ := long_n c (by omega)
  have HA : Hid (∀ W, Tbl W → Calls Tryd.prog 31 #[.string (zs a), .string ⟨#[120]⟩] W fun e w' => e = .returned (.tuple #[.string A, .int .i64 r1]) ∧ Below W.heap.size W w') := Lib.hid (fun W g => by have := mac_calls (zs a) ⟨#[120]⟩ W g; rw [a1] at this; exact this)
  have HD : Hid (∀ W, Tbl W → Calls Tryd.prog 33 #[.string (zs a), .string (zs b), .int .i64 3] W fun e w' => e = .returned (.tuple #[.string B, .int .i64 r2]) ∧ Below W.heap.size W w') := Lib.hid (fun W g => by have := derive_calls (zs a) (zs b) 3 W g (by omega) (by omega); rw [b1] at this; exact this)
  have HC : Hid (∀ W, Tbl W → Calls Tryd.prog 33 #[.string ⟨#[107, 101, 121]⟩, .string ⟨#[110, 97, 109, 101]⟩, .int .i64 (c : Int)] W fun e w' => e = .returned (.tuple #[.string C, .int .i64 r3]) ∧ Below W.heap.size W w') := Lib.hid (fun W g => by have := derive_calls ⟨#[107, 101, 121]⟩ ⟨#[110, 97, 109, 101]⟩ (c : Int) W g (by omega) (by omega); rw [c1] at this; exact this)
  clear a1 b1 c1
  have hm := run_mk a (by omega)
  have hm2 := run_mk b (by omega)
  have kv := fun (W : World) (g : Nat) (q : W.heap[g]? = some (.cells (zc a) 5 (0, 0))) => run_cv a W g (0, 0) q
  have kv2 := fun (W : World) (g : Nat) (q : W.heap[g]? = some (.cells (zc b) 5 (0, 0))) => run_cv b W g (0, 0) q
  have f0 : ∀ (W : World) (o : Obj), (W.alloc o).heap = W.heap.push o := fun _ _ => rfl
  have f1 : ∀ (W : World), W.drew.heap = W.heap := fun _ => rfl
  have f5 : ∀ (xs : Array Obj) (o : Obj) (i : Nat), (xs.push o)[i]? = if i = xs.size then some o else xs[i]? := fun _ _ _ => Array.getElem?_push
  have f6 : ∀ (xs : Array Obj) (o : Obj), (xs.push o).size = xs.size + 1 := fun _ _ => Array.size_push ..
  have f8 : ∀ (xs : Array Obj) (c o : Obj) (q : xs.size + 1 < ((xs.push c).push o).size), ((xs.push c).push o)[xs.size + 1]'q = o := fun xs c o q => by simp [Array.getElem_push]
  have f9 : ∀ (xs : Array Obj) (c o : Obj) (q : xs.size < ((xs.push c).push o).size), ((xs.push c).push o)[xs.size]'q = c := fun xs c o q => by simp [Array.getElem_push]
  go_enter Tryd.func13, Tryd.ntmps13
  go_wp2_with (first
    | (go_at_call 29; with_reducible refine (awake2_calls _ HG.out).mono ?_; rintro e W1 ⟨rfl, hb⟩; have HB1 := Lib.hid hb; clear hb)
    | (go_at_call 30; with_reducible refine (HPC.out _).mono ?_; rintro e W2 ⟨rfl, rfl⟩)
    | (go_at_call 30; with_reducible refine (HQC.out _).mono ?_; rintro e W2 ⟨rfl, rfl⟩)
    | (go_at_call 30; with_reducible refine (HRC.out _).mono ?_; rintro e W2 ⟨rfl, rfl⟩)
    | (go_at_call 31; refine (HA.out _ (HG.out.below (two_below HB1.out))).mono ?_; rintro e W3 ⟨rfl, hb⟩; have HB3 := Lib.hid (two_chain HB1.out hb); clear hb))
  go_cut [13, 14] from 34 to 44 (fun v13 v14 wx => v13 = .string B ∧ v14 = .int .i64 r2 ∧ Below w.heap.size w wx)
  case first =>
    clear a2 b2 c2
    go_region_with ((go_at_call 33; refine (HD.out _ (HG.out.below (two_below HB3.out))).mono ?_; rintro e W6 ⟨rfl, hb⟩; have B6 := Lib.hid (two_chain HB3.out hb); clear hb))
    all_goals (go_wp2_with fail; go_meet)
    all_goals exact ⟨rfl, rfl, B6.out⟩
  case rest =>
    obtain ⟨rfl, rfl, hB4⟩ := hcut
    have HB4 := Lib.hid hB4
    clear hB4 hm hm2 kv kv2 f0 f1 f5 f6 f8 f9
    rcases c2 with ⟨hc1, rfl, hcs⟩ | ⟨hc1, rfl, rfl⟩
    · rcases a2 with ⟨ha1, rfl⟩ | ⟨ha1, rfl⟩
      · rcases b2 with ⟨_, hb2, rfl⟩ | ⟨hb1, rfl⟩
        · have ka : ((a : Int) ≤ 1000) := by omega
          have kb : ((b : Int) ≤ 1000) := by omega
          have kc : ((c : Int) ≤ 4096) := by omega
          go_wp2_with (go_at_call 33; with_reducible refine (HC.out _ (HG.out.below HB4.out)).mono ?_; rintro e W7 ⟨rfl, hb⟩; have HB5 := Lib.hid (HB4.out.trans (hb.mono HB4.out.size)); clear hb)
          go_ret
          exact ⟨by first | rfl | (simp [ka, kc]; done) | (simp [ka, kb, kc]; done), HB5.out⟩
        · have ka : ((a : Int) ≤ 1000) := by omega
          have kb : ¬ ((b : Int) ≤ 1000) := by omega
          have kc : ((c : Int) ≤ 4096) := by omega
          go_wp2_with (go_at_call 33; with_reducible refine (HC.out _ (HG.out.below HB4.out)).mono ?_; rintro e W7 ⟨rfl, hb⟩; have HB5 := Lib.hid (HB4.out.trans (hb.mono HB4.out.size)); clear hb)
          go_ret
          exact ⟨by first | rfl | (simp [ka, kc]; done) | (simp [ka, kb, kc]; done), HB5.out⟩
      · obtain ⟨hb1, rfl⟩ : ¬ (a ≤ 1000 ∧ b ≤ 1000) ∧ r2 = 1 := by rcases b2 with h | h; (exfalso; omega); exact h
        have ka : ¬ ((a : Int) ≤ 1000) := by omega
        have kc : ((c : Int) ≤ 4096) := by omega
        go_wp2_with (go_at_call 33; with_reducible refine (HC.out _ (HG.out.below HB4.out)).mono ?_; rintro e W7 ⟨rfl, hb⟩; have HB5 := Lib.hid (HB4.out.trans (hb.mono HB4.out.size)); clear hb)
        go_ret
        exact ⟨by first | rfl | (simp [ka, kc]; done) | (simp [ka, kb, kc]; done), HB5.out⟩
    · rcases a2 with ⟨ha1, rfl⟩ | ⟨ha1, rfl⟩
      · rcases b2 with ⟨_, hb2, rfl⟩ | ⟨hb1, rfl⟩
        · have ka : ((a : Int) ≤ 1000) := by omega
          have kb : ((b : Int) ≤ 1000) := by omega
          have kc : ¬ ((c : Int) ≤ 4096) := by omega
          go_wp2_with (go_at_call 33; with_reducible refine (HC.out _ (HG.out.below HB4.out)).mono ?_; rintro e W7 ⟨rfl, hb⟩; have HB5 := Lib.hid (HB4.out.trans (hb.mono HB4.out.size)); clear hb)
          go_ret
          exact ⟨by first | rfl | (simp [ka, kc]; done) | (simp [ka, kb, kc]; done), HB5.out⟩
        · have ka : ((a : Int) ≤ 1000) := by omega
          have kb : ¬ ((b : Int) ≤ 1000) := by omega
          have kc : ¬ ((c : Int) ≤ 4096) := by omega
          go_wp2_with (go_at_call 33; with_reducible refine (HC.out _ (HG.out.below HB4.out)).mono ?_; rintro e W7 ⟨rfl, hb⟩; have HB5 := Lib.hid (HB4.out.trans (hb.mono HB4.out.size)); clear hb)
          go_ret
          exact ⟨by first | rfl | (simp [ka, kc]; done) | (simp [ka, kb, kc]; done), HB5.out⟩
      · obtain ⟨hb1, rfl⟩ : ¬ (a ≤ 1000 ∧ b ≤ 1000) ∧ r2 = 1 := by rcases b2 with h | h; (exfalso; omega); exact h
        have ka : ¬ ((a : Int) ≤ 1000) := by omega
        have kc : ¬ ((c : Int) ≤ 4096) := by omega
        go_wp2_with (go_at_call 33; with_reducible refine (HC.out _ (HG.out.below HB4.out)).mono ?_; rintro e W7 ⟨rfl, hb⟩; have HB5 := Lib.hid (HB4.out.trans (hb.mono HB4.out.size)); clear hb)
        go_ret
        exact ⟨by first | rfl | (simp [ka, kc]; done) | (simp [ka, kb, kc]; done), HB5.out⟩
end Go.Proofs.YtajaobebcmlhaaaDoor.Pr
