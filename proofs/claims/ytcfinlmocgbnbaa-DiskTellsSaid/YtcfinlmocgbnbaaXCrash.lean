/-
  What Crash answers. No condition but that what is copied is no longer than what a slice may hold.
-/
import Derived.Test.YtcfinlmocgbnbaaXSettle
import Derived.Test.YtcfinlmocgbnbaaXRight
import Derived.Test.YtcfinlmocgbnbaaPrFdiskown
namespace Go.Proofs.Ytcfinlmocgbnbaa.Pr
open Go.RowKit Go.Shelf Go.Proofs.Ytcfinlmocgbnbaa.XB Go.Proofs.YtcfinlmocgbnbaaW.PrintWords
attribute [local go_sem] Oper.semAt_some
set_option linter.unusedVariables false
set_option linter.unusedSimpArgs false
structure RightS (su : List ByteArray) (so : List S24) : Prop where
  one : 1 ≤ su.length
  most : su.length ≤ 400
  few : so.length ≤ 3000
  fits : Fits su so
  nos : ∀ m ∈ so, m.f0 = false
theorem right_iff {su : List ByteArray} {so : List S24} : rightB su so = true ↔ RightS su so := by
  unfold rightB
  simp only [Bool.and_eq_true, decide_eq_true_eq, Bool.not_eq_true', List.any_eq_false, Bool.not_eq_true]
  constructor
  · rintro ⟨h0, h1, h2, h3, h4, h5⟩
    have hs : ∀ m ∈ so, m.f0 = false := fun m hm => by have := h4 m hm; simpa [syncB] using this
    have ho : ∀ m ∈ so, ¬ m.f1 < 0 ∧ ¬ m.f1 ≥ (su.length : Int) ∧ (m.f2.size : Int) = 64 := fun m hm => by
      have := h5 m hm
      unfold oddB at this
      rw [hs m hm] at this
      simpa [and_assoc] using this
    refine ⟨by omega, by omega, by omega, ⟨fun m hm => ?_, fun m hm => ?_, fun s hs' => ?_⟩, hs⟩
    · have := ho m hm; omega
    · have := ho m hm; omega
    · have := h3 s hs'
      unfold shortB at this
      have h := of_decide_eq_false this
      omega
  · rintro ⟨h0, h1, h2, ⟨h3, h4, h5⟩, h6⟩
    refine ⟨by omega, by omega, by omega, fun s hs => ?_, fun m hm => ?_, fun m hm => ?_⟩
    · have := h5 s hs
      unfold shortB
      simp only [decide_eq_false_iff_not]
      omega
    · simpa [syncB] using h6 m hm
    · unfold oddB
      rw [h6 m hm]
      have a := h3 m hm
      have b := h4 m hm
      simp only [Bool.false_eq_true, if_false, Bool.or_eq_false_iff, decide_eq_false_iff_not]
      omega
theorem cutOf_range (cuts : List Int) (i : Nat) : 0 ≤ cutOf cuts i ∧ cutOf cuts i ≤ 64 := by
  unfold cutOf
  split <;> omega
set_option maxRecDepth 100000 in
theorem cut_calls (A : Option Addr) (c : Nat) (cuts : List Int) (i b : Nat) (w0 w : World) (hr : Kd.C (Kd.int .i64) w0 A cuts.length cuts) (hb : w0.heap[b]? = some (.cells #[.slice A cuts.length c] 25 (0, 0))) (hw : Below w0.heap.size w0 w) :
    Calls Try.prog 53 (#[.int .i64 i] ++ #[.pointer (some ⟨b, 0, none⟩)]) w fun e w' => e = .returned (.int .i64 (cutOf cuts i)) ∧ Below w.heap.size w w' := by
  have c0 : w.cell? ⟨b, 0, none⟩ = some (.slice A cuts.length c) := (blk_cell (blk_same hb hw) 0).trans rfl
  by_cases h : (i : Int) ≥ cuts.length
  · have e : cutOf cuts i = 0 := by unfold cutOf; rw [if_pos h]
    rw [e]
    go_enter Try.func53, Try.ntmps53
    go_wp2
    go_ret
    exact ⟨rfl, Below.refl _ _⟩
  · have e : cutOf cuts i = min (max (rd cuts i) 0) 64 := by unfold cutOf; rw [if_neg h]
    rw [e]
    obtain ⟨ad, rfl, r0⟩ := Kd.at_int (Kd.C_below hr hw) (i : Int) (by omega) (by omega)
    simp only [Int.toNat_natCast] at r0
    generalize rd cuts (i : Int) = z at *
    have fin : ∀ y : Int, y = min (max z 0) 64 → Ending.returned (Value.int .i64 y) = Ending.returned (Value.int .i64 (min (max z 0) 64)) := fun y h => by rw [h]
    have FIN := Lib.hid fin
    clear fin e
    go_enter Try.func53, Try.ntmps53
    by_cases z0 : z < 0
    · go_wp2
      go_ret
      exact ⟨FIN.out 0 (by omega), Below.refl _ _⟩
    · by_cases z1 : 64 < z
      · go_wp2
        go_ret
        exact ⟨FIN.out 64 (by omega), Below.refl _ _⟩
      · go_wp2
        go_ret
        exact ⟨FIN.out z (by omega), Below.refl _ _⟩
def disk_Crash.f (l0_0 : List ByteArray) (l0_1 : List (S24)) (l1 : List Int) : Option (List ByteArray × (List (S24)) × Int) := if l0_0.length < 8796093022208 ∧ l0_1.length < 4398046511104 then some (crashB l0_0 l0_1 l1) else none
theorem boxes3 (w : World) (o0 o1 o2 : Obj) :
    (((w.alloc o0).alloc o1).alloc o2).heap[w.heap.size]? = some o0 ∧ (((w.alloc o0).alloc o1).alloc o2).heap[w.heap.size + 1]? = some o1 ∧ (((w.alloc o0).alloc o1).alloc o2).heap[w.heap.size + 2]? = some o2 := by
  show (((w.heap.push _).push _).push _)[_]? = _ ∧ (((w.heap.push _).push _).push _)[_]? = _ ∧ (((w.heap.push _).push _).push _)[_]? = _
  refine ⟨?_, ?_, ?_⟩ <;> (simp only [Array.getElem?_push, Array.size_push]; repeat (first | rw [if_pos trivial] | rw [if_pos (by omega)] | rw [if_neg (by omega)]))
/-- A result that is kept in a variable of its own: a disk and a number. -/
theorem ret30 {fn : Func} {tmps : Array Value} {w w0 : World} {g : Nat} {v0 v1 : Value} {n : Int} {r1 : List ByteArray} {r2 : List S24} {c0 c1 : Value} {p q : Nat} (hres : fn.results = #[.cell p 30, .tmp q])
    (hp : tmps.getD p undef = .pointer (some ⟨g, 0, none⟩)) (hq : tmps.getD q undef = .int .i64 n) (hg : w.heap[g]? = some (.cells #[c0, c1] 30 (0, 0))) (hgb : w0.heap.size ≤ g)
    (h0 : Kd.R Kd.string 9 w w0.heap.size (fun _ => True) v0 r1) (h1 : Kd.R k24 24 w w0.heap.size (fun _ => True) v1 r2) (hB : Below w0.heap.size w0 w) (e : Exit) (he : e = .ret) :
    bodyPost Try.prog fn (fun e w' => ∃ v0_ v1_ : Value, e = .returned (.tuple #[.agg #[v0_, v1_], .int .i64 n]) ∧ Kd.R Kd.string 9 w' w0.heap.size (fun _ => True) v0_ r1 ∧ Kd.R k24 24 w' w0.heap.size (fun _ => True) v1_ r2 ∧ Below w0.heap.size w0 w') e { tmps := tmps, defers := [] } ((w.setCell ⟨g, 0, none⟩ v0).setCell ⟨g, 1, none⟩ v1) := by
  subst he
  have X := XB.put21 (XB.put20 hg v0) v1
  have V : XB.ValsX Try.prog tmps ((w.setCell ⟨g, 0, none⟩ v0).setCell ⟨g, 1, none⟩ v1) [.cell p 30, .tmp q] [.agg #[v0, v1], .int .i64 n] := by
    rw [← hq]
    exact .cell _ _ _ _ _ hp X Try.underlying30 rfl (by kernel_rfl) (.tmp .nil)
  refine bodyPost_ret (XB.resultsX_list hres (by simp) V) rfl ?_
  exact ⟨_, _, rfl, Kd.R_set (Kd.R_set h0 hg (by decide) 0 _) (XB.put20 hg v0) (by decide) 1 _, Kd.R_set (Kd.R_set h1 hg (by decide) 0 _) (XB.put20 hg v0) (by decide) 1 _, (hB.setCell hgb _).setCell hgb _⟩
theorem own_f {su : List ByteArray} {so : List S24} (h : su.length < 8796093022208 ∧ so.length < 4398046511104) : disk_own.f su so = some (su, so) := by
  unfold disk_own.f slices_Clone_string_string.f api_Move_77.f
  rw [if_pos h.1, if_pos h.2]
  rfl
set_option maxRecDepth 100000 in
set_option maxHeartbeats 4000000 in
theorem disk_Crash.calls (A0_0 : Option Addr) (c0_0 : Nat) (l0_0 : List ByteArray) (A0_1 : Option Addr) (c0_1 : Nat) (l0_1 : List (S24)) (A1 : Option Addr) (c1 : Nat) (l1 : List Int) (r1 : List ByteArray) (r2 : List (S24)) (r3 : Int) (w : World) (hr0_0 : Kd.C Kd.string w A0_0 l0_0.length l0_0) (hc0_0 : l0_0.length ≤ c0_0) (hr0_1 : Kd.C k24 w A0_1 l0_1.length l0_1) (hc0_1 : l0_1.length ≤ c0_1) (hr1 : Kd.C (Kd.int .i64) w A1 l1.length l1) (hc1 : l1.length ≤ c1) (h : disk_Crash.f l0_0 l0_1 l1 = some (r1, r2, r3)) :
    Calls Try.prog 26 #[.agg #[.slice A0_0 l0_0.length c0_0, .slice A0_1 l0_1.length c0_1], .slice A1 l1.length c1] w fun e w' => ∃ v0_ v1_ : Value, e = .returned (.tuple #[.agg #[v0_, v1_], .int .i64 r3]) ∧ Kd.R Kd.string 9 w' w.heap.size (fun _ => True) v0_ r1 ∧ Kd.R k24 24 w' w.heap.size (fun _ => True) v1_ r2 ∧ Below w.heap.size w w' := by
  unfold disk_Crash.f at h
  by_cases hl : l0_0.length < 8796093022208 ∧ l0_1.length < 4398046511104
  case neg => rw [if_neg hl] at h; cases h
  rw [if_pos hl] at h
  have H := Option.some.inj h
  have HO := Lib.hid (own_f hl)
  have HR0 := Lib.hid hr0_0
  have HR1 := Lib.hid hr0_1
  have HR2 := Lib.hid hr1
  clear h hr0_0 hr0_1 hr1
  unfold crashB at H
  have HRC := Lib.hid (fun W (hW : Below w.heap.size w W) => disk_Right.calls A0_0 c0_0 l0_0 A0_1 c0_1 l0_1 _ W (Kd.C_below HR0.out hW) hc0_0 (Kd.C_below HR1.out hW) hc0_1 rfl)
  by_cases hb : rightB l0_0 l0_1 = true
  · rw [if_pos hb] at H
    have HS := right_iff.1 hb
    rw [hb] at HRC
    simp only [Prod.mk.injEq] at H
    obtain ⟨rfl, rfl, rfl⟩ := H
    have HSS := Lib.hid HS
    clear hb HS
    go_enter Try.func26, Try.ntmps26
    go_wp2_with fail
    generalize hU : World.alloc (World.alloc (World.alloc w _) _) _ = U
    obtain ⟨b1, b2, b3⟩ : U.heap[w.heap.size]? = some (.cells #[.slice A0_0 l0_0.length c0_0, .slice A0_1 l0_1.length c0_1] 30 (0, 0)) ∧ U.heap[w.heap.size + 1]? = some (.cells #[.slice A1 l1.length c1] 25 (0, 0)) ∧ U.heap[w.heap.size + 2]? = some (.cells #[.slice none 0 0, .slice none 0 0] 30 (0, 0)) := by rw [← hU]; exact boxes3 w _ _ _
    have HB : Below w.heap.size w U := by rw [← hU]; exact below_alloc (below_alloc (below_alloc (Below.refl w.heap.size w) _) _) _
    clear hU
    refine (HRC.out U HB).mono ?_
    rintro e W1 ⟨rfl, hb⟩
    have b1' := blk_same b1 hb
    have B2 := Lib.hid (blk_same b2 hb)
    have B3 := Lib.hid (blk_same b3 hb)
    have HB1 := Lib.hid (HB.trans (hb.mono HB.size))
    have k0 : W1.cell? ⟨w.heap.size, 0, none⟩ = some (.slice A0_0 l0_0.length c0_0) := (blk_cell b1' 0).trans rfl
    have k1 : W1.cell? ⟨w.heap.size, 1, none⟩ = some (.slice A0_1 l0_1.length c0_1) := (blk_cell b1' 1).trans rfl
    clear b1 b2 b3 b1' hb HB U
    go_wp2_with fail
    refine (settle_calls 53 #[.pointer (some ⟨w.heap.size + 1, 0, none⟩)] (cutOf l1) A0_0 c0_0 l0_0 A0_1 c0_1 l0_1 W1 (Kd.C_below HR0.out HB1.out) hc0_0 (Kd.C_below HR1.out HB1.out) hc0_1 hl.1 (by omega) HSS.out.fits (cutOf_range l1) (fun _ _ => rfl)
      (fun i W _ hW => cut_calls A1 c1 l1 i (w.heap.size + 1) W1 W (Kd.C_below HR2.out HB1.out) B2.out hW)).mono ?_
    rintro e W2 ⟨v0, v1, rfl, ho0, ho1, hb⟩
    have B3' := Lib.hid (blk_same B3.out hb)
    have HB2 := Lib.hid (HB1.out.trans (hb.mono HB1.out.size))
    obtain ⟨Ao, co, e0⟩ := Kd.R_slice ho0
    obtain ⟨Ap, cp, e1⟩ := Kd.R_slice ho1
    subst e0
    subst e1
    have h0 := Lib.hid (Kd.R_lower ho0 HB1.out.size)
    have h1 := Lib.hid (Kd.R_lower ho1 HB1.out.size)
    have j0 : W2.cell? ⟨w.heap.size + 2, 0, none⟩ = some (.slice none 0 0) := (blk_cell B3'.out 0).trans rfl
    have j1 : W2.cell? ⟨w.heap.size + 2, 1, none⟩ = some (.slice none 0 0) := (blk_cell B3'.out 1).trans rfl
    have f0 := blk_frozen B3'.out 0
    have f1 := blk_frozen B3'.out 1
    clear hb ho0 ho1 k0 k1
    go_wp2
    exact ret30 rfl rfl rfl B3'.out (by show w.heap.size ≤ w.heap.size + 2; omega) h0.out h1.out HB2.out _ rfl
  · have hb' : rightB l0_0 l0_1 = false := by simpa using hb
    rw [if_neg hb] at H
    rw [hb'] at HRC
    simp only [Prod.mk.injEq] at H
    obtain ⟨rfl, rfl, rfl⟩ := H
    clear hb hb'
    go_enter Try.func26, Try.ntmps26
    go_wp2_with fail
    generalize hU : World.alloc (World.alloc (World.alloc w _) _) _ = U
    obtain ⟨b1, b2, b3⟩ : U.heap[w.heap.size]? = some (.cells #[.slice A0_0 l0_0.length c0_0, .slice A0_1 l0_1.length c0_1] 30 (0, 0)) ∧ U.heap[w.heap.size + 1]? = some (.cells #[.slice A1 l1.length c1] 25 (0, 0)) ∧ U.heap[w.heap.size + 2]? = some (.cells #[.slice none 0 0, .slice none 0 0] 30 (0, 0)) := by rw [← hU]; exact boxes3 w _ _ _
    have HB : Below w.heap.size w U := by rw [← hU]; exact below_alloc (below_alloc (below_alloc (Below.refl w.heap.size w) _) _) _
    clear hU
    refine (HRC.out U HB).mono ?_
    rintro e W1 ⟨rfl, hb⟩
    have b1' := blk_same b1 hb
    have B2 := Lib.hid (blk_same b2 hb)
    have B3 := Lib.hid (blk_same b3 hb)
    have HB1 := Lib.hid (HB.trans (hb.mono HB.size))
    have k0 : W1.cell? ⟨w.heap.size, 0, none⟩ = some (.slice A0_0 l0_0.length c0_0) := (blk_cell b1' 0).trans rfl
    have k1 : W1.cell? ⟨w.heap.size, 1, none⟩ = some (.slice A0_1 l0_1.length c0_1) := (blk_cell b1' 1).trans rfl
    clear b1 b2 b3 b1' hb HB U
    go_wp2_with fail
    refine (disk_own.calls A0_0 c0_0 l0_0 A0_1 c0_1 l0_1 l0_0 l0_1 W1 (Kd.C_below HR0.out HB1.out) hc0_0 (Kd.C_below HR1.out HB1.out) hc0_1 HO.out).mono ?_
    rintro e W2 ⟨v0, v1, rfl, ho0, ho1, hb⟩
    have B3' := Lib.hid (blk_same B3.out hb)
    have HB2 := Lib.hid (HB1.out.trans (hb.mono HB1.out.size))
    obtain ⟨Ao, co, e0⟩ := Kd.R_slice ho0
    obtain ⟨Ap, cp, e1⟩ := Kd.R_slice ho1
    subst e0
    subst e1
    have h0 := Lib.hid (Kd.R_lower ho0 HB1.out.size)
    have h1 := Lib.hid (Kd.R_lower ho1 HB1.out.size)
    have j0 : W2.cell? ⟨w.heap.size + 2, 0, none⟩ = some (.slice none 0 0) := (blk_cell B3'.out 0).trans rfl
    have j1 : W2.cell? ⟨w.heap.size + 2, 1, none⟩ = some (.slice none 0 0) := (blk_cell B3'.out 1).trans rfl
    have f0 := blk_frozen B3'.out 0
    have f1 := blk_frozen B3'.out 1
    clear hb ho0 ho1 k0 k1
    go_wp2
    exact ret30 rfl rfl rfl B3'.out (by show w.heap.size ≤ w.heap.size + 2; omega) h0.out h1.out HB2.out _ rfl
end Go.Proofs.Ytcfinlmocgbnbaa.Pr
