/-
  What New answers; what slices.Repeat makes of one text. Condition of the latter: as many as a disk may have blocks.
-/
import Derived.Test.YtcfinlmocgbnbaaShelf
import Derived.Test.YtcfinlmocgbnbaaXCrash
import Derived.Laws.CopyOwn
import Derived.Laws.CopyRow
import Derived.Test.YtcfinlmocgbnbaaXSq
import Derived.Test.YtcfinlmocgbnbaaXRange2
namespace Go.Proofs.Ytcfinlmocgbnbaa.Pr
open Go.Proofs.Ytcfinlmocgbnbaa.Sq Go.RowKit Go.Shelf Go.Proofs.Ytcfinlmocgbnbaa.XB Go.Proofs.YtcfinlmocgbnbaaW.PrintWords Go.Proofs.YtcfinlmocgbnbaaW.PrintLast Go.Proofs.YtcfinlmocgbnbaaW.PrintMore
attribute [local go_sem] Oper.semAt_some
set_option linter.unusedVariables false
set_option linter.unusedSimpArgs false
/-- k texts, and as many empty ones as lack. -/
def mixL (s : ByteArray) (n k : Nat) : List Value := List.replicate k (.string s) ++ List.replicate (n - k) (.string ⟨#[]⟩)
theorem mixL_len (s : ByteArray) (n k : Nat) (h : k ≤ n) : (mixL s n k).length = n := by simp [mixL]; omega
theorem made_mix (s : ByteArray) (n : Nat) : madeCells #[.string ⟨#[]⟩] n = (mixL s n 0).toArray := by
  unfold mixL madeCells
  apply Array.ext'
  simp only [List.replicate_zero, List.nil_append, Nat.sub_zero, Array.toList_map, Array.toList_range]
  apply List.ext_getElem
  · simp
  · intro i h1 h2
    simp only [List.getElem_map, List.getElem_replicate]
    simp [Nat.mod_one]
theorem mix_splice (s : ByteArray) (n k j : Nat) (h : k + j ≤ n) : splice (mixL s n k) k (List.replicate j (.string s)) = mixL s n (k + j) := by
  unfold splice mixL
  rw [List.take_append_of_le_length (by simp), List.take_of_length_le (by simp), List.length_replicate, List.drop_append, List.drop_of_length_le (by simp), List.nil_append, List.length_replicate, List.drop_replicate, ← List.append_assoc, List.replicate_append_replicate]
  congr 2
  omega
def slicesRepeat.T9 : Bool × List (List Nat × List Nat) := (true, [([], []), ([], []), ([], []), ([1, 2], [1, 2]), ([], []), ([], []), ([4, 5], [4, 5]), ([3, 6], [3, 6]), ([0, 7], [0, 7]), ([8, 7, 0, 1, 2, 3, 4, 5, 6, 7, 8], [0, 2, 5, 8])])
def slicesRepeat.B9 : List Nat := [0, 0, 0, 6, 0, 0, 48, 126, 255, 511]
theorem slicesRepeat.tab9 : rtab .any (opsOf Try.f39 9) = slicesRepeat.T9 := by kernel_rfl
theorem slicesRepeat.bits9 : waitsOk slicesRepeat.T9.2 slicesRepeat.B9 = true := by kernel_rfl
theorem meas_mix {n k j : Nat} {z : Int} (hz : z = ((k + j : Nat) : Int)) (h : n - (k + j) < n - k) : n - (intOf (Value.int .i64 z)).toNat < n - (intOf (Value.int .i64 (k : Int))).toNat := by
  subst hz
  show n - ((k + j : Nat) : Int).toNat < n - ((k : Nat) : Int).toNat
  rw [Int.toNat_natCast, Int.toNat_natCast]
  exact h
theorem step_copy {P : Program} {ops : Array Oper} {o : Oper} {a : Act} {w w1 : World} {K : Act → World → Prop} {Q : Exit → Act → World → Prop} {N : Option Tmp} {d s : Operand} {dT sT : TypeId} {v u r : Value}
    (hw : Region.wanted o (yielded ops a.tmps) = true) (hN : o.dst = N) (ho : o.op = .call { callee := .builtin .copy, args := #[d, s], argTypes := #[dT, sT] }) (hd : a.eval d = v) (hs : a.eval s = u)
    (hr : (Builtin.copy_ #[dT, sT] o.type #[v, u]).run P w = .ok r w1) (h : K (a.put N r) w1) : if Region.wanted o (yielded ops a.tmps) = true then Oper.wp P o a w K Q else K (a.put N undef) w := by
  subst hN
  rw [if_pos hw]
  unfold Oper.wp
  simp [execOp, ho, resolve, invoke, builtin, hd, hs, hr, Result.andThen]
  exact h
theorem mix_src {w : World} {g : Nat} {s : ByteArray} {n k j i : Nat} {v : Value} (h : w.heap[g]? = some (.cells (mixL s n k).toArray 9 (0, 0))) (hj : min k (n - k) = j) (hk : k ≤ n) (hi : (List.replicate j (Value.string s))[i]? = some v) :
    w.cell? ((⟨g, 0, none⟩ : Addr).add i) = some v := by
  obtain ⟨hlt, rfl⟩ := List.getElem?_eq_some_iff.1 hi
  rw [List.length_replicate] at hlt
  rw [add_plain, blk_cell h i]
  have : i < k := by omega
  simp [mixL, List.getElem?_append_left, this]
theorem mix_set {w : World} {g : Nat} {s : ByteArray} {n k j : Nat} (h : w.heap[g]? = some (.cells (mixL s n k).toArray 9 (0, 0))) (hk : k + j ≤ n) :
    (w.setRow g ((mixL s n k).toArray.toList.take k ++ List.replicate j (Value.string s) ++ (mixL s n k).toArray.toList.drop (k + j)).toArray).heap[g]? = some (.cells (mixL s n (k + j)).toArray 9 (0, 0)) := by
  rw [setRow_heap w g _ _ _ _ h]
  have := mix_splice s n k j hk
  unfold splice at this
  rw [List.length_replicate] at this
  simp only [List.append_assoc]
  rw [this]
theorem mul_one_calls (n : Nat) (h : n ≤ 400) (w : World) : Calls Try.prog 65 #[.int .u64 1, .int .u64 n] w fun e w' => e = .returned (.tuple #[.int .u64 0, .int .u64 n]) ∧ w = w' := by
  refine (Try.bits_Mul 1 n (by omega) (by omega) w).mono ?_
  rintro e w' ⟨rfl, rfl⟩
  rw [Nat.one_mul, Nat.div_eq_of_lt (by omega), Nat.mod_eq_of_lt (by omega)]
  exact ⟨rfl, rfl⟩
theorem mix_own (s : ByteArray) (n : Nat) (w : World) (base g : Nat) (hb : base ≤ g) (hn : n ≤ 400) (h : w.heap[g]? = some (.cells (mixL s n n).toArray 9 (0, 0))) : Kd.R Kd.string 9 w base (fun _ => True) (.slice (some ⟨g, 0, none⟩) n n) (List.replicate n s) := by
  refine Kd.R_of_own (enc := Value.string) ?_ (fun _ _ => trivial)
  rw [List.length_replicate]
  have e : encs Value.string (List.replicate n s) = mixL s n n := by simp [encs, mixL]
  rw [e]
  exact ⟨by rw [mixL_len _ _ _ (Nat.le_refl _), Nat.mul_one], .inr ⟨g, n, _, rfl, hb, h, Nat.le_refl _, by unfold maxLen; omega, by simp [mixL], by simp [mixL]⟩⟩
set_option maxRecDepth 100000 in
set_option maxHeartbeats 4000000 in
theorem repeat_calls (s : ByteArray) (n g0 c0 : Nat) (h1 : 1 ≤ n) (hn : n ≤ 400) (w : World) (hs : w.cell? ⟨g0, 0, none⟩ = some (.string s)) :
    Calls Try.prog 39 #[.slice (some ⟨g0, 0, none⟩) 1 c0, .int .i64 n] w fun e w' => ∃ v, e = .returned v ∧ Kd.R Kd.string 9 w' w.heap.size (fun _ => True) v (List.replicate n s) ∧ Below w.heap.size w w' := by
  have HMK := Lib.hid (fun W : World => by have := print_make_of (P := Try.prog) 27 9 (.string ⟨#[]⟩) 16 Try.underlying27 info9 rfl (by omega) n (by omega) W; rw [made_mix s n] at this; exact this)
  have hmk := HMK.out
  have HS := Lib.hid hs
  have hn0 : ¬ (n : Int) < 0 := by omega
  have k1 : IntKind.u64.wrap (n : Int) = (n : Int) := IntWalk.u64_in _ (by omega)
  have k2 : IntKind.i64.wrap (n : Int) = (n : Int) := IntWalk.i64_in _ (by omega)
  clear hs
  go_enter Try.func39, Try.ntmps39
  have hi9 : (Try.prog.info? 9).map (·.size) = some 1 := by kernel_rfl
  have HI9 := Lib.hid hi9
  clear hi9
  go_wp2_with (first
    | (go_at_call 65; with_reducible refine (mul_one_calls n hn _).mono ?_; rintro e w' ⟨rfl, rfl⟩)
    | (refine wpList_copy_splice rfl (.tmp 31) (.tmp 32) 27 27 rfl 9 Try.underlying27 HI9.out (some ⟨w.heap.size, 0, none⟩) (some ⟨g0, 0, none⟩) n n 1 c0 rfl rfl w.heap.size 0 (mixL s n 0) 9 (heap_alloc_new w _) [.string s] ?h1 ?h2 ?h3 ?h4 w.heap.size w (below_alloc (Below.refl _ _) _) (Nat.le_refl _) ?_; (case h1 => show 1 = min 1 n; omega); (case h2 => exact fun _ => ⟨rfl, _, rfl, fun j v hj => by cases j with | zero => (cases hj; exact pw_cell_below (below_alloc (Below.refl _ _) _) HS.out) | succ j => cases hj⟩); (case h3 => rw [mixL_len _ _ _ (Nat.zero_le _)]; show 0 + 1 ≤ n; omega); (case h4 => intro v hv; (obtain rfl : v = .string s := by simpa using hv); rfl); intro W1 hh hbl; have hh2 := hh.out; rw [show ([.string s] : List Value) = List.replicate 1 (.string s) from rfl, mix_splice s n 0 1 (by omega), Nat.zero_add] at hh2; have HG1 := Lib.hid hh2; have HB1 := Lib.hid hbl; clear hh hbl hh2))
  clear hmk k1 k2
  go_loopw [8] (fun v8 X => ∃ k : Nat, 1 ≤ k ∧ k ≤ n ∧ v8 = .int .i64 k ∧ X.heap[w.heap.size]? = some (.cells (mixL s n k).toArray 9 (0, 0)) ∧ Below w.heap.size w X)
    (fun v8 _ => n - (intOf v8).toNat)
  case atStart => exact ⟨1, by omega, by omega, rfl, HG1.out, HB1.out⟩
  case round =>
    obtain ⟨k, hk1, hkn, rfl, hg, hB⟩ := hrel
    have HG := Lib.hid hg
    have HB := Lib.hid hB
    clear hg hB HG1 HB1
    by_cases hlt : k < n
    · have hki : (k : Int) < n := by omega
      obtain ⟨j, hj, hj1⟩ : ∃ j : Nat, min k (n - k) = j ∧ 1 ≤ j := ⟨_, rfl, by omega⟩
      have hkj : k + j ≤ n := by omega
      go_wp2_with fail
      have hnk : ¬ n = k := by omega
      have HGY := Lib.hid (XB.blk_drew HG.out)
      have HBY := Lib.hid (below_drew1 HB.out)
      refine start_ (n := 10) (S := fun w' => True) (ds := []) #[false, false, false, false, false, false, false, false, false, false] (by kernel_rfl) rfl rfl trivial (fun hHeld => ?_); refine with_tabW slicesRepeat.tab9 slicesRepeat.bits9 (fun HT_ HW_ => ?_)
      generalize wr.drew = Y at *
      refine pu_ 0 (some 38) HT_ rfl rfl (.inl ⟨by rfl, by intro w'; go_simp; with_reducible rfl⟩) (by simp only [Act.put, sa_, s0_, s1_, i64_w, i32_w]; rfl) ?_
      refine pu_ 1 (some 39) HT_ rfl rfl (.inl ⟨by rfl, by intro w'; go_simp; with_reducible rfl⟩) (by simp only [Act.put, sa_, s0_, s1_, i64_w, i32_w]; rfl) ?_
      refine pu_ 2 (some 40) HT_ rfl rfl (.inl ⟨by rfl, by intro w'; go_simp; with_reducible rfl⟩) (by simp only [Act.put, sa_, s0_, s1_, i64_w, i32_w]; rfl) ?_
      refine pu_ 3 (some 41) HT_ rfl rfl (.inl ⟨by rfl, by intro w'; go_simp; with_reducible rfl⟩) (by simp only [Act.put, sa_, s0_, s1_, i64_w, i32_w]; rfl) ?_
      refine pu_ 4 (some 42) HT_ rfl rfl (.inl ⟨by rfl, by intro w'; go_simp; with_reducible rfl⟩) (by simp only [Act.put, sa_, s0_, s1_, i64_w, i32_w]; rfl) ?_
      refine pu_ 5 (some 43) HT_ rfl rfl (.inl ⟨by rfl, by intro w'; go_simp; with_reducible rfl⟩) (by simp only [Act.put, sa_, s0_, s1_, i64_w, i32_w]; rfl) ?_
      refine pu_ 6 (some 44) HT_ rfl rfl (.inl ⟨by rfl, by intro w'; go_simp; with_reducible rfl⟩) (by simp only [Act.put, sa_, s0_, s1_, i64_w, i32_w]; rfl) ?_
      refine on_ 7 (some 45) HT_ rfl rfl (fun K hK => ?_)
      have hsz : (List.replicate j (Value.string s)).length = j := List.length_replicate
      refine step_copy rfl rfl rfl rfl rfl (run_copy_row (P := Try.prog) Y 27 27 _ 9 w.heap.size k (n - k) (n - k) ⟨w.heap.size, 0, none⟩ k n (mixL s n k).toArray 9 (List.replicate j (.string s)) Try.underlying27 HI9.out HGY.out (by rw [hsz, ← hj]) ?cs (by rw [hsz, List.size_toArray, mixL_len _ _ _ hkn]; exact hkj) (by intro v hv; rw [(List.mem_replicate.1 hv).2]; rfl)) ?_
      case cs => exact fun i v hi => mix_src HGY.out hj hkn hi
      rw [hsz]
      generalize hZ : World.setRow Y w.heap.size _ = Z
      have HGZ := Lib.hid (show Z.heap[w.heap.size]? = some (.cells (mixL s n (k + j)).toArray 9 (0, 0)) by rw [← hZ]; exact mix_set HGY.out hkj)
      have HBZ := Lib.hid (show Below w.heap.size w Z by rw [← hZ]; exact below_setRow HBY.out (Nat.le_refl _) _)
      clear hZ
      refine hK.out _ _ trivial (fun hHeld => ?_)
      clear hK K
      refine norm_ (by show Act.put _ (some 45) _ = _; simp only [Act.put, sa_, s0_, s1_, i64_w, i32_w]; rfl) ?_
      refine pu_ 8 (some 46) HT_ rfl rfl (.inl ⟨by rfl, by intro w'; go_simp; with_reducible rfl⟩) (by simp only [Act.put, sa_, s0_, s1_, i64_w, i32_w]; rfl) ?_
      refine pu_ 9 (some 8) HT_ rfl rfl (.inl ⟨by rfl, by intro w'; go_simp; with_reducible rfl⟩) (by simp only [Act.put, sa_, s0_, s1_, i64_w, i32_w]; rfl) ?_
      refine done_ (done_of HT_.out (by kernel_rfl)) ?_
      go_wp2
      have hwr : wrap64 ((k : Int) + (j : Int)) = ((k + j : Nat) : Int) := by unfold wrap64; omega
      have hm : n - (k + j) < n - k := by omega
      go_roundw
      case rel => exact ⟨k + j, by omega, hkj, congrArg (Value.int .i64) hwr, HGZ.out, HBZ.out⟩
      case measure => exact meas_mix hwr hm
    · obtain rfl : k = n := by omega
      go_wp2
      go_ret
      exact ⟨_, rfl, mix_own s k wr _ _ (Nat.le_refl _) hn HG.out, HB.out⟩
def blank : ByteArray := ⟨(List.replicate 64 (0 : UInt8)).toArray⟩
theorem blank_size : blank.size = 64 := rfl
theorem repL_one (x : UInt8) : ∀ c : Nat, Lib.repeatL [x] c = List.replicate c x
  | 0 => rfl
  | c + 1 => by rw [List.replicate_succ, ← repL_one x c]; rfl
theorem blank_calls (w : World) : Calls Try.prog 40 #[.string ⟨#[0]⟩, .int .i64 64] w fun e w' => e = .returned (.string blank) ∧ Below w.heap.size w w' := by
  have h := Try.strings_Repeat ⟨#[0]⟩ 64 w (by omega) (by show 1 * 64 ≤ _; omega)
  have e : (⟨(Lib.repeatL (⟨#[0]⟩ : ByteArray).data.toList 64).toArray⟩ : ByteArray) = blank := by
    show (⟨(Lib.repeatL [0] 64).toArray⟩ : ByteArray) = blank
    rw [repL_one]
    rfl
  rw [e] at h
  exact h
theorem ret30w {fn : Func} {tmps : Array Value} {w w0 : World} {g : Nat} {v0 v1 : Value} {n : Int} {r1 : List ByteArray} {r2 : List S24} {p q : Nat} (hres : fn.results = #[.cell p 30, .tmp q])
    (hp : tmps.getD p undef = .pointer (some ⟨g, 0, none⟩)) (hq : tmps.getD q undef = .int .i64 n) (hg : w.heap[g]? = some (.cells #[v0, v1] 30 (0, 0)))
    (h0 : Kd.R Kd.string 9 w w0.heap.size (fun _ => True) v0 r1) (h1 : Kd.R k24 24 w w0.heap.size (fun _ => True) v1 r2) (hB : Below w0.heap.size w0 w) (e : Exit) (he : e = .ret) :
    bodyPost Try.prog fn (fun e w' => ∃ v0_ v1_ : Value, e = .returned (.tuple #[.agg #[v0_, v1_], .int .i64 n]) ∧ Kd.R Kd.string 9 w' w0.heap.size (fun _ => True) v0_ r1 ∧ Kd.R k24 24 w' w0.heap.size (fun _ => True) v1_ r2 ∧ Below w0.heap.size w0 w') e { tmps := tmps, defers := [] } w := by
  subst he
  have V : XB.ValsX Try.prog tmps w [.cell p 30, .tmp q] [.agg #[v0, v1], .int .i64 n] := by
    rw [← hq]
    exact .cell _ _ _ _ _ hp hg Try.underlying30 rfl (by kernel_rfl) (.tmp .nil)
  refine bodyPost_ret (XB.resultsX_list hres (by simp) V) rfl ?_
  exact ⟨_, _, rfl, h0, h1, hB⟩
def newB (n : Int) : List ByteArray × List S24 × Int := if 1 ≤ n ∧ n ≤ 400 then (List.replicate n.toNat blank, [], 0) else ([], [], 1)
def disk_New.f (a0 : Int) : Option (List ByteArray × (List (S24)) × Int) := some (newB a0)
set_option maxRecDepth 100000 in
set_option maxHeartbeats 4000000 in
theorem disk_New.calls (a0 : Int) (r1 : List ByteArray) (r2 : List (S24)) (r3 : Int) (w : World) (h : disk_New.f a0 = some (r1, r2, r3)) :
    Calls Try.prog 13 #[.int .i64 a0] w fun e w' => ∃ v0_ v1_ : Value, e = .returned (.tuple #[.agg #[v0_, v1_], .int .i64 r3]) ∧ Kd.R Kd.string 9 w' w.heap.size (fun _ => True) v0_ r1 ∧ Kd.R k24 24 w' w.heap.size (fun _ => True) v1_ r2 ∧ Below w.heap.size w w' := by
  have H := Option.some.inj h
  clear h
  unfold newB at H
  by_cases hn : 1 ≤ a0 ∧ a0 ≤ 400
  · rw [if_pos hn] at H
    simp only [Prod.mk.injEq] at H
    obtain ⟨rfl, rfl, rfl⟩ := H
    obtain ⟨n, rfl⟩ : ∃ n : Nat, a0 = n := ⟨a0.toNat, by omega⟩
    obtain ⟨hn1, hn2⟩ := hn
    go_enter Try.func13, Try.ntmps13
    go_wp2_with fail
    generalize hX : World.alloc w _ = X
    have B0 := Lib.hid (show X.heap[w.heap.size]? = some (.cells #[.slice none 0 0, .slice none 0 0] 30 (0, 0)) by rw [← hX]; exact heap_alloc_new w _)
    have HX := Lib.hid (show Below w.heap.size w X by rw [← hX]; exact below_alloc (Below.refl _ _) _)
    clear hX
    refine (blank_calls X).mono ?_
    rintro e W1 ⟨rfl, hb⟩
    have B1 := Lib.hid (blk_same B0.out hb)
    have HB1 := Lib.hid (HX.out.trans (hb.mono HX.out.size))
    clear hb B0 HX
    go_wp2_with fail
    generalize hY : World.alloc W1 _ = Y
    have B2 := Lib.hid (show Y.heap[w.heap.size]? = some (.cells #[.slice none 0 0, .slice none 0 0] 30 (0, 0)) by rw [← hY]; exact blk_alloc B1.out _)
    have HY := Lib.hid (show Below w.heap.size w Y by rw [← hY]; exact below_alloc HB1.out _)
    have hcell : Y.cell? ⟨W1.heap.size, 0, none⟩ = some (.string blank) := (blk_cell (show Y.heap[W1.heap.size]? = some (.cells #[.string blank] 9 (0, 0)) by rw [← hY]; exact heap_alloc_new W1 _) 0).trans rfl
    clear hY B1 HB1
    refine (repeat_calls blank n W1.heap.size 1 (by omega) (by omega) Y hcell).mono ?_
    rintro e W2 ⟨v, rfl, ho, hb⟩
    obtain ⟨Ao, co, e0⟩ := Kd.R_slice ho
    rw [List.length_replicate] at e0
    subst e0
    have B3 := Lib.hid (blk_same B2.out hb)
    have HB3 := Lib.hid (HY.out.trans (hb.mono HY.out.size))
    have HO := Lib.hid (Kd.R_lower ho HY.out.size)
    have j0 : W2.cell? ⟨w.heap.size, 0, none⟩ = some (.slice none 0 0) := (blk_cell B3.out 0).trans rfl
    have j1 : W2.cell? ⟨w.heap.size, 1, none⟩ = some (.slice none 0 0) := (blk_cell B3.out 1).trans rfl
    have f0 := blk_frozen B3.out 0
    have f1 := blk_frozen B3.out 1
    clear hb ho hcell
    go_wp2
    rw [Int.toNat_natCast]
    exact ret30 (p := 2) (q := 3) (n := 0) (g := w.heap.size) (w := W2) (w0 := w) rfl rfl rfl B3.out (Nat.le_refl _) HO.out (Kd.R_nil _ _ _ _ _) HB3.out _ rfl
  · rw [if_neg hn] at H
    simp only [Prod.mk.injEq] at H
    obtain ⟨rfl, rfl, rfl⟩ := H
    have hn' : a0 < 1 ∨ (¬ a0 < 1 ∧ 400 < a0) := by omega
    have B0 := Lib.hid (heap_alloc_new w (.cells #[.slice none 0 0, .slice none 0 0] 30))
    have HB := Lib.hid (below_alloc (Below.refl w.heap.size w) (.cells #[.slice none 0 0, .slice none 0 0] 30))
    clear hn
    go_enter Try.func13, Try.ntmps13
    rcases hn' with h1 | ⟨h1, h2⟩ <;> (
      go_wp2
      exact ret30w rfl rfl rfl B0.out (Kd.R_nil _ _ _ _ _) (Kd.R_nil _ _ _ _ _) HB.out _ rfl)
end Go.Proofs.Ytcfinlmocgbnbaa.Pr
