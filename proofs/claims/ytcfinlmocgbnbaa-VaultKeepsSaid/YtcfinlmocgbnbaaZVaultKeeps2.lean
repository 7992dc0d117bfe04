/-
  A part of what the row VaultKeeps reaches, laid together by a program of this session (wip/tools/shake.py) out of this seat's texts. No condition but the ones that each lemma names.
-/
import Derived.Shelf.Strings.Builder1
import Derived.Shelf.Strings.Builder2
import Derived.Shelf.Strings.BuilderF
import Derived.Shelf.Strings.BuilderK
import Derived.Shelf.Strings.Builder2Cap
import Derived.Shelf.Strings.Prefix
import Derived.Shelf.Bits.Mul64
import Derived.Shelf.Strings.Repeat
import Derived.Shelf.Strings.BuilderCap
import Derived.Test.YtcfinlmocgbnbaaProg
import Derived.Laws.CopyOwn
import Derived.Laws.CopyRow
import Derived.WalkKit
import Derived.Lib.Hide
import Derived.Outline
import Derived.Lib.ConvBytes
import Derived.Laws.BytesArg
import Derived.LoopTactic
import Derived.Test.YtcfinlmocgbnbaaZVaultKeeps1
set_option linter.unusedVariables false
set_option linter.unusedSimpArgs false
section
namespace Go.Proofs.Ytcfinlmocgbnbaa.Pr
open Go.RowKit Go.Shelf Go.Proofs.Ytcfinlmocgbnbaa.XB Go.Proofs.YtcfinlmocgbnbaaW.PrintWords Go.Proofs.YtcfinlmocgbnbaaW.PrintLast Go.Proofs.YtcfinlmocgbnbaaW.PrintMore
attribute [local go_sem] Oper.semAt_some
set_option linter.unusedVariables false
set_option linter.unusedSimpArgs false
set_option maxRecDepth 100000 in
theorem all_calls (i : Nat) (w : World) : Calls Try.prog 52 #[.int .i64 i] w fun e w' => e = .returned (.int .i64 64) ∧ Below w.heap.size w w' := by
  go_enter Try.func52, Try.ntmps52
  go_wp2
  go_ret
  exact ⟨rfl, Below.refl _ _⟩
structure DoInv (n : Nat) (su : List ByteArray) (so : List S24) : Prop where
  len : su.length = n
  few : so.length ≤ 3000
  fits : Fits su so
theorem odd_not {n : Int} {m : S24} (h : oddB n m = false) : m.f0 = false → 0 ≤ m.f1 ∧ m.f1 < n ∧ m.f2.size = 64 := by
  intro h0
  unfold oddB at h
  rw [h0] at h
  simp only [Bool.false_eq_true, if_false, Bool.or_eq_false_iff, decide_eq_false_iff_not] at h
  omega
theorem inv_fall {n : Nat} {su : List ByteArray} {so : List S24} (h : DoInv n su so) : DoInv n (fall su so (fun _ => 64) 0) [] :=
  ⟨by rw [fall_len]; exact h.len, by simp, ⟨fun m hm => by simp at hm, fun m hm => by simp at hm, fall_sur so su _ 0 h.fits (fun _ => by omega)⟩⟩
theorem inv_app {n : Nat} {su : List ByteArray} {so : List S24} {m : S24} (h : DoInv n su so) (hm : oddB n m = false) (h0 : m.f0 = false) (h1 : so.length ≠ 3000) : DoInv n su (so ++ [m]) := by
  obtain ⟨a, b, c⟩ := odd_not hm h0
  have hl := h.len
  refine ⟨hl, by have := h.few; simp; omega, ⟨fun x hx => ?_, fun x hx => ?_, h.fits.sur⟩⟩
  · rcases List.mem_append.1 hx with hx | hx
    · exact h.fits.blk x hx
    · obtain rfl : x = m := by simpa using hx
      omega
  · rcases List.mem_append.1 hx with hx | hx
    · exact h.fits.byt x hx
    · obtain rfl : x = m := by simpa using hx
      exact c
theorem doL_at {su0 : List ByteArray} {so0 : List S24} {su : List ByteArray} {so : List S24} {l : List S24} {i : Nat} (h : i < l.length) :
    doL su0 so0 su so (l.drop i) = if (rd_T24 l i).f0 = true then doL su0 so0 (fall su so (fun _ => 64) 0) [] (l.drop (i + 1)) else if (so.length : Int) = 3000 then (su0, so0, 2) else doL su0 so0 su (so ++ [rd_T24 l i]) (l.drop (i + 1)) := by
  rw [List.drop_eq_getElem_cons h, rd24_get h]
  rfl
def disk_Do.f (l0_0 : List ByteArray) (l0_1 : List (S24)) (l1 : List (S24)) : Option (List ByteArray × (List (S24)) × Int) := if l0_0.length < 8796093022208 ∧ l0_1.length < 4398046511104 then some (doB l0_0 l0_1 l1) else none
set_option maxRecDepth 100000 in
set_option maxHeartbeats 4000000 in
theorem disk_Do.calls (A0_0 : Option Addr) (c0_0 : Nat) (l0_0 : List ByteArray) (A0_1 : Option Addr) (c0_1 : Nat) (l0_1 : List (S24)) (A1 : Option Addr) (c1 : Nat) (l1 : List (S24)) (r1 : List ByteArray) (r2 : List (S24)) (r3 : Int) (w : World) (hr0_0 : Kd.C Kd.string w A0_0 l0_0.length l0_0) (hc0_0 : l0_0.length ≤ c0_0) (hr0_1 : Kd.C k24 w A0_1 l0_1.length l0_1) (hc0_1 : l0_1.length ≤ c0_1) (hr1 : Kd.C k24 w A1 l1.length l1) (hc1 : l1.length ≤ c1) (h : disk_Do.f l0_0 l0_1 l1 = some (r1, r2, r3)) :
    Calls Try.prog 25 #[.agg #[.slice A0_0 l0_0.length c0_0, .slice A0_1 l0_1.length c0_1], .slice A1 l1.length c1] w fun e w' => ∃ v0_ v1_ : Value, e = .returned (.tuple #[.agg #[v0_, v1_], .int .i64 r3]) ∧ Kd.R Kd.string 9 w' w.heap.size (fun _ => True) v0_ r1 ∧ Kd.R k24 24 w' w.heap.size (fun _ => True) v1_ r2 ∧ Below w.heap.size w w' := by
  unfold disk_Do.f at h
  by_cases hl : l0_0.length < 8796093022208 ∧ l0_1.length < 4398046511104
  case neg => rw [if_neg hl] at h; cases h
  rw [if_pos hl] at h
  have H := Option.some.inj h
  have HO := Lib.hid (own_f hl)
  have HR0 := Lib.hid hr0_0
  have HR1 := Lib.hid hr0_1
  have HR2 := Lib.hid hr1
  have hxs : l1.length ≤ 9223372036854775807 := Kd.C_max hr1
  clear h hr0_0 hr0_1 hr1
  unfold doB at H
  have HRC := Lib.hid (fun W (hW : Below w.heap.size w W) => disk_Right.calls A0_0 c0_0 l0_0 A0_1 c0_1 l0_1 _ W (Kd.C_below HR0.out hW) hc0_0 (Kd.C_below HR1.out hW) hc0_1 rfl)
  have HOW := Lib.hid (fun W (hW : Below w.heap.size w W) => disk_own.calls A0_0 c0_0 l0_0 A0_1 c0_1 l0_1 l0_0 l0_1 W (Kd.C_below HR0.out hW) hc0_0 (Kd.C_below HR1.out hW) hc0_1 HO.out)
  by_cases hb : rightB l0_0 l0_1 = true
  · have HS := right_iff.1 hb
    have HSS := Lib.hid HS
    rw [hb] at HRC
    cases hany : l1.any (oddB l0_0.length)
    · rw [if_pos ⟨hb, hany⟩] at H
      have HANY := Lib.hid (List.any_eq_false.1 hany)
      have HD := Lib.hid H
      clear hb HS H
      go_enter Try.func25, Try.ntmps25
      go_wp2_with fail
      generalize hU : World.alloc (World.alloc w _) _ = U
      obtain ⟨b1, b2⟩ : U.heap[w.heap.size]? = some (.cells #[.slice A0_0 l0_0.length c0_0, .slice A0_1 l0_1.length c0_1] 30 (0, 0)) ∧ U.heap[w.heap.size + 1]? = some (.cells #[.slice none 0 0, .slice none 0 0] 30 (0, 0)) := by rw [← hU]; exact ⟨heap_alloc2_old w _ _, heap_alloc2_new w _ _⟩
      have HB : Below w.heap.size w U := by rw [← hU]; exact below_alloc (below_alloc (Below.refl w.heap.size w) _) _
      clear hU
      refine (HRC.out U HB).mono ?_
      rintro e W1 ⟨rfl, hb⟩
      have b1' := blk_same b1 hb
      have B1 := Lib.hid b1'
      have B2 := Lib.hid (blk_same b2 hb)
      have HB1 := Lib.hid (HB.trans (hb.mono HB.size))
      have k0 : W1.cell? ⟨w.heap.size, 0, none⟩ = some (.slice A0_0 l0_0.length c0_0) := (blk_cell b1' 0).trans rfl
      have k1 : W1.cell? ⟨w.heap.size, 1, none⟩ = some (.slice A0_1 l0_1.length c0_1) := (blk_cell b1' 1).trans rfl
      clear b1 b2 b1' hb HB U
      go_wp2_with fail
      refine (oddF_calls l0_0.length _).mono ?_
      rintro e W2 ⟨rfl, hW2⟩
      have hb2 := (show Below W1.heap.size W1 W2 by rw [hW2]; exact below_alloc (Below.refl _ _) _)
      have hg := Lib.hid (show W2.heap[W1.heap.size]? = some (.cells #[.int .i64 l0_0.length] 3 (0, 0)) by rw [hW2]; exact heap_alloc_new _ _)
      have B1b := Lib.hid (blk_same B1.out hb2)
      have B2b := Lib.hid (blk_same B2.out hb2)
      have HB2 := Lib.hid (HB1.out.trans (hb2.mono HB1.out.size))
      clear hb2 hW2 B1 B2 HB1 k0 k1
      generalize W1.heap.size = g48 at *
      clear W1
      go_wp2_with fail
      refine (contains47_calls 73 #[.pointer (some ⟨g48, 0, none⟩)] (oddB l0_0.length) A1 c1 l1 _ (Kd.C_below HR2.out HB2.out) hc1 (Kd.C_max HR2.out) (fun _ _ => rfl) (fun x W hW => odd_calls x l0_0.length g48 _ W hg.out hW)).mono ?_
      rintro e W3 ⟨rfl, hb3⟩
      rw [hany]
      have b1' := blk_same B1b.out hb3
      have B1c := Lib.hid b1'
      have B2c := Lib.hid (blk_same B2b.out hb3)
      have HB3 := Lib.hid (HB2.out.trans (hb3.mono HB2.out.size))
      have k0 : W3.cell? ⟨w.heap.size, 0, none⟩ = some (.slice A0_0 l0_0.length c0_0) := (blk_cell b1' 0).trans rfl
      have k1 : W3.cell? ⟨w.heap.size, 1, none⟩ = some (.slice A0_1 l0_1.length c0_1) := (blk_cell b1' 1).trans rfl
      clear hb3 b1' hg B1b B2b HB2 hany
      go_wp2_with fail
      refine (HOW.out W3 HB3.out).mono ?_
      rintro e W4 ⟨v0, v1, rfl, ho0, ho1, hb⟩
      obtain ⟨Ao, co, e0⟩ := Kd.R_slice ho0
      obtain ⟨Ap, cp, e1⟩ := Kd.R_slice ho1
      subst e0
      subst e1
      have h0 := Lib.hid (Kd.R_lower ho0 HB3.out.size)
      have h1 := Lib.hid (Kd.R_lower ho1 HB3.out.size)
      have B1d := Lib.hid (blk_same B1c.out hb)
      have B2d := Lib.hid (blk_same B2c.out hb)
      have HB4 := Lib.hid (HB3.out.trans (hb.mono HB3.out.size))
      clear hb ho0 ho1 B1c B2c HB3 k0 k1
      go_wp2_with fail
      generalize hX : World.alloc W4 _ = X
      have B6 := Lib.hid (show X.heap[W4.heap.size]? = some (.cells #[.slice Ao l0_0.length co, .slice Ap l0_1.length cp] 30 (0, 0)) by rw [← hX]; exact heap_alloc_new W4 _)
      have h0' := Lib.hid (show Kd.R Kd.string 9 X w.heap.size (fun _ => True) (.slice Ao l0_0.length co) l0_0 by rw [← hX]; exact Kd.R_alloc h0.out _)
      have h1' := Lib.hid (show Kd.R k24 24 X w.heap.size (fun _ => True) (.slice Ap l0_1.length cp) l0_1 by rw [← hX]; exact Kd.R_alloc h1.out _)
      have B1e := Lib.hid (show X.heap[w.heap.size]? = some (.cells #[.slice A0_0 l0_0.length c0_0, .slice A0_1 l0_1.length c0_1] 30 (0, 0)) by rw [← hX]; exact bkA B1d.out _)
      have B2e := Lib.hid (show X.heap[w.heap.size + 1]? = some (.cells #[.slice none 0 0, .slice none 0 0] 30 (0, 0)) by rw [← hX]; exact bkA B2d.out _)
      have HBX := Lib.hid (show Below w.heap.size w X by rw [← hX]; exact below_alloc HB4.out _)
      have n2 : w.heap.size + 1 < W4.heap.size := blk_lt B2d.out
      have DI : DoInv l0_0.length l0_0 l0_1 := ⟨rfl, HSS.out.few, HSS.out.fits⟩
      clear hX h0 h1 B1d B2d HB4
      generalize W4.heap.size = g6 at *
      clear W4 W3
      go_loopw [26] (fun v26 Y => ∃ (i : Nat) (su : List ByteArray) (so : List S24) (Ao Ap : Option Addr) (co cp : Nat), i ≤ l1.length ∧ v26 = .int .i64 i ∧ DoInv l0_0.length su so ∧ doL l0_0 l0_1 su so (l1.drop i) = (r1, r2, r3) ∧
          Y.heap[w.heap.size]? = some (.cells #[.slice A0_0 l0_0.length c0_0, .slice A0_1 l0_1.length c0_1] 30 (0, 0)) ∧ Y.heap[w.heap.size + 1]? = some (.cells #[.slice none 0 0, .slice none 0 0] 30 (0, 0)) ∧ Y.heap[g6]? = some (.cells #[.slice Ao su.length co, .slice Ap so.length cp] 30 (0, 0)) ∧
          Kd.R Kd.string 9 Y w.heap.size (fun _ => True) (.slice Ao su.length co) su ∧ Kd.R k24 24 Y w.heap.size (fun _ => True) (.slice Ap so.length cp) so ∧ Below w.heap.size w Y)
        (fun v26 _ => l1.length - (intOf v26).toNat)
      case atStart => exact ⟨0, l0_0, l0_1, Ao, Ap, co, cp, by omega, rfl, DI, by rw [List.drop_zero]; exact HD.out, B1e.out, B2e.out, B6.out, h0'.out, h1'.out, HBX.out⟩
      case round =>
        clear DI B1e B2e B6 h0' h1' HBX
        obtain ⟨i, su, so, Xo, Xp, xo, xp, hi, rfl, hinv, hdo, hb1, hb2, hb6, hR, hS, hB⟩ := hrel
        have HB := Lib.hid hB
        have HB1 := Lib.hid hb1
        have HB2 := Lib.hid hb2
        have HB6 := Lib.hid hb6
        have HR := Lib.hid hR
        have HS := Lib.hid hS
        have HINV := Lib.hid hinv
        by_cases hlt : i < l1.length
        · rw [doL_at hlt] at hdo
          obtain ⟨ad, rfl, q0, q1, q2⟩ := at_T24 (Kd.C_below HR2.out hB) (i : Int) (by omega) (by omega)
          simp only [Int.toNat_natCast] at q0 q1 q2
          have hmem : rd_T24 l1 i ∈ l1 := by rw [rd24_get hlt]; exact List.getElem_mem _
          have hodd : oddB l0_0.length (rd_T24 l1 i) = false := by simpa using HANY.out _ hmem
          generalize rd_T24 l1 i = m at *
          obtain ⟨sy, bl, by_⟩ := m
          have HDO := Lib.hid hdo
          have HODD := Lib.hid hodd
          have kd0 : ∀ o : Obj, (wr.alloc o).cell? ⟨w.heap.size, 0, none⟩ = some (.slice A0_0 l0_0.length c0_0) := fun o => (blk_cell (bkA hb1 o) 0).trans rfl
          have kd1 : ∀ o : Obj, (wr.alloc o).cell? ⟨w.heap.size, 1, none⟩ = some (.slice A0_1 l0_1.length c0_1) := fun o => (blk_cell (bkA hb1 o) 1).trans rfl
          have k60 : ∀ o : Obj, (wr.alloc o).cell? ⟨g6, 0, none⟩ = some (.slice Xo su.length xo) := fun o => (blk_cell (bkA hb6 o) 0).trans rfl
          have k61 : ∀ o : Obj, (wr.alloc o).cell? ⟨g6, 1, none⟩ = some (.slice Xp so.length xp) := fun o => (blk_cell (bkA hb6 o) 1).trans rfl
          clear hB hb1 hb2 hb6 hR hS hinv hdo hmem hodd
          cases sy
          · by_cases hfull : (so.length : Int) = 3000
            · have hfb : ((so.length : Int) == 3000) = true := by simpa using hfull
              have hh := HDO.out
              rw [if_neg (by simp), if_pos hfull] at hh
              simp only [Prod.mk.injEq] at hh
              obtain ⟨rfl, rfl, rfl⟩ := hh
              clear HDO HD hfull
              go_wp2_with fail
              generalize hX : World.alloc wr _ = W3
              have HB1' := Lib.hid (show Below w.heap.size w W3 by rw [← hX]; exact below_alloc HB.out _)
              have B2 := Lib.hid (show W3.heap[w.heap.size + 1]? = some (.cells #[.slice none 0 0, .slice none 0 0] 30 (0, 0)) by rw [← hX]; exact bkA HB2.out _)
              clear hX HB1 k60 k61 kd0 kd1 hfb HB2 HB HB6 HR HS HINV
              have HB1 := HB1'
              clear HB1'
              have k0 := trivial
              have k1 := trivial
              refine (HOW.out W3 HB1.out).mono ?_
              rintro e W2 ⟨v0, v1, rfl, ho0, ho1, hb⟩
              have B3' := Lib.hid (blk_same B2.out hb)
              have HB2 := Lib.hid (HB1.out.trans (hb.mono HB1.out.size))
              obtain ⟨Ao, co, e0⟩ := Kd.R_slice ho0
              obtain ⟨Ap, cp, e1⟩ := Kd.R_slice ho1
              subst e0
              subst e1
              have h0 := Lib.hid (Kd.R_lower ho0 HB1.out.size)
              have h1 := Lib.hid (Kd.R_lower ho1 HB1.out.size)
              have j0 : W2.cell? ⟨w.heap.size + 1, 0, none⟩ = some (.slice none 0 0) := (blk_cell B3'.out 0).trans rfl
              have j1 : W2.cell? ⟨w.heap.size + 1, 1, none⟩ = some (.slice none 0 0) := (blk_cell B3'.out 1).trans rfl
              have f0 := blk_frozen B3'.out 0
              have f1 := blk_frozen B3'.out 1
              clear hb ho0 ho1 k0 k1
              go_wp2
              exact ret30 rfl rfl rfl B3'.out (by show w.heap.size ≤ w.heap.size + 1; omega) h0.out h1.out HB2.out _ rfl
            · have hfb : ((so.length : Int) == 3000) = false := by simpa using hfull
              have hh := HDO.out
              rw [if_neg (by simp), if_neg hfull] at hh
              have HDO2 := Lib.hid hh
              clear hh HDO
              have HTOK := trivial
              go_wp2_with (first
                | ((with_reducible refine gate_dst (N := 30) rfl ?_); have tk := HTOK; generalize hX : World.alloc wr _ = X3; have HX3 := Lib.hid (show Below wr.heap.size wr X3 by rw [← hX]; exact below_alloc (Below.refl _ _) _); have x8 := (show X3.heap[wr.heap.size]? = some (.cells #[.bool false, .int .i64 bl, .string by_] 24 (0, 0)) by rw [← hX]; exact heap_alloc_new wr _); clear hX HTOK tk k60 k61 kd0 kd1; have x6 := blk_same HB6.out HX3.out; have x1 := Lib.hid (blk_same HB1.out HX3.out); have x2 := Lib.hid (blk_same HB2.out HX3.out); have xR := Lib.hid (Kd.R_below HR.out HX3.out); have xS := Lib.hid (Kd.R_below HS.out HX3.out); have xB := Lib.hid (HB.out.trans (HX3.out.mono HB.out.size)); have kx : X3.cell? ⟨g6, 1, none⟩ = some (.slice Xp so.length xp) := (blk_cell x6 1).trans rfl; have c8a : X3.cell? ⟨wr.heap.size, 0, none⟩ = some (.bool false) := (blk_cell x8 0).trans rfl; have c8b : X3.cell? ⟨wr.heap.size, 1, none⟩ = some (.int .i64 bl) := (blk_cell x8 1).trans rfl; have c8c : X3.cell? ⟨wr.heap.size, 2, none⟩ = some (.string by_) := (blk_cell x8 2).trans rfl; clear x8; have x6 := Lib.hid x6)
                | ((with_reducible refine gate_builtin (b := .append) (xs := #[.tmp 31, .tmp 33]) rfl ?_); at_builtin; refine Kd.R_append k24 (w0 := w) w.heap.size rfl (.tmp 31) (.tmp 33) 28 24 (.agg #[(.bool false), (.int .i64 0), (.string ⟨#[]⟩)]) 32 rfl Try.underlying28 info24 rfl (by decide) (by omega) (.slice Xp so.length xp) so (⟨false, bl, by_⟩ : S24) [.bool false, .int .i64 bl, .string by_] (fun _ => True) (fun _ => False) rfl rfl ?aP (fun _ hk => hk.elim) ?aF ?aO ?aB ?aS ?aL ?_; (case aP => exact k24_mkM _ _ _ (⟨false, bl, by_⟩ : S24)); (case aF => exact (fun _ _ => trivial)); (case aO => exact xS.out); (case aB => exact xB.out); (case aS => exact xB.out.size); (case aL => have := HINV.out.few; omega); intro v1' W5 ho hb hg hat; obtain ⟨Yp, yp, e1⟩ := Kd.R_slice ho; subst e1; have y6 := blk_grown x6.out hg (Kd.R_ne xS.out x6.out (by decide)); have y1 := Lib.hid (blk_grown x1.out hg (Kd.R_ne xS.out x1.out (by decide))); have y2 := Lib.hid (blk_grown x2.out hg (Kd.R_ne xS.out x2.out (by decide))); have yR := Lib.hid (Kd.R_over xR.out xS.out (by decide) hg); have yS := Lib.hid ho; have yB := Lib.hid hb; have kk : W5.cell? ⟨g6, 1, none⟩ = some (.slice Xp so.length xp) := (blk_cell y6 1).trans rfl; have ff := blk_frozen y6 1; have y6 := Lib.hid y6; clear ho hb hg hat kx c8a c8b c8c))
              have hlen : (so ++ [(⟨false, bl, by_⟩ : S24)]).length = so.length + 1 := by simp
              go_roundw
              case rel => exact ⟨i + 1, su, so ++ [⟨false, bl, by_⟩], Xo, Yp, xo, yp, by omega, by simp, inv_app HINV.out HODD.out rfl (by omega), HDO2.out, blk_far y1.out (by show w.heap.size ≠ g6; omega) _, blk_far y2.out (by show w.heap.size + 1 ≠ g6; omega) _, by rw [hlen]; exact XB.put21 y6.out _, Kd.R_set yR.out y6.out (by decide) 1 _, Kd.R_set yS.out y6.out (by decide) 1 _, yB.out.setCell (by show w.heap.size ≤ g6; omega) _⟩
              case measure => simp [intOf]; omega
          · have hh := HDO.out
            rw [if_pos rfl] at hh
            have HDO2 := Lib.hid hh
            clear hh HDO
            go_wp2_with fail
            generalize hX : World.alloc wr _ = X3
            have HX3 := Lib.hid (show Below wr.heap.size wr X3 by rw [← hX]; exact below_alloc (Below.refl _ _) _)
            clear hX
            have hrr := Kd.R_reads' (Kd.R_below HR.out HX3.out)
            have hrs := Kd.R_reads' (Kd.R_below HS.out HX3.out)
            refine (settle_calls 52 #[] (fun _ => 64) Xo xo su Xp xp so X3 hrr.2.2 hrr.2.1 hrs.2.2 hrs.2.1 (by rw [HINV.out.len]; exact hl.1) (by have := HINV.out.few; omega) HINV.out.fits (fun _ => by omega) (fun _ _ => rfl) (fun i W _ _ => by simpa using all_calls i W)).mono ?_
            rintro e W5 ⟨v0, v1, rfl, ho0, ho1, hb⟩
            have hb5 := HX3.out.trans (hb.mono HX3.out.size)
            have hz : w.heap.size ≤ X3.heap.size := Nat.le_trans HB.out.size HX3.out.size
            obtain ⟨Yo, yo, e0⟩ := Kd.R_slice ho0
            obtain ⟨Yp, yp, e1⟩ := Kd.R_slice ho1
            subst e0
            subst e1
            have y6 := blk_same HB6.out hb5
            have y1 := Lib.hid (blk_same HB1.out hb5)
            have y2 := Lib.hid (blk_same HB2.out hb5)
            have yR := Lib.hid (Kd.R_lower ho0 hz)
            have yS := Lib.hid (Kd.R_lower ho1 hz)
            have yB := Lib.hid (HB.out.trans (hb5.mono HB.out.size))
            have ka : W5.cell? ⟨g6, 0, none⟩ = some (.slice Xo su.length xo) := (blk_cell y6 0).trans rfl
            have kb : W5.cell? ⟨g6, 1, none⟩ = some (.slice Xp so.length xp) := (blk_cell y6 1).trans rfl
            have fa := blk_frozen y6 0
            have fb := blk_frozen y6 1
            have y6 := Lib.hid y6
            clear ho0 ho1 hb hb5 hrr hrs k60 k61 kd0 kd1
            go_wp2
            go_roundw
            case rel => exact ⟨i + 1, fall su so (fun _ => 64) 0, [], Yo, Yp, yo, yp, by omega, by simp, inv_fall HINV.out, HDO2.out, blk_far (blk_far y1.out (by show w.heap.size ≠ g6; omega) _) (by show w.heap.size ≠ g6; omega) _, blk_far (blk_far y2.out (by show w.heap.size + 1 ≠ g6; omega) _) (by show w.heap.size + 1 ≠ g6; omega) _, XB.put21 (XB.put20 y6.out _) _, Kd.R_set (Kd.R_set yR.out y6.out (by decide) 0 _) (XB.put20 y6.out _) (by decide) 1 _, Kd.R_set (Kd.R_set yS.out y6.out (by decide) 0 _) (XB.put20 y6.out _) (by decide) 1 _, (yB.out.setCell (by show w.heap.size ≤ g6; omega) _).setCell (by show w.heap.size ≤ g6; omega) _⟩
            case measure => simp [intOf]; omega
        · obtain rfl : i = l1.length := by omega
          rw [List.drop_length] at hdo
          have hh : su = r1 ∧ so = r2 ∧ 0 = r3 := by
            have : (su, so, (0 : Int)) = (r1, r2, r3) := hdo
            simpa only [Prod.mk.injEq] using this
          obtain ⟨rfl, rfl, rfl⟩ := hh
          have k60 : wr.cell? ⟨g6, 0, none⟩ = some (.slice Xo su.length xo) := (blk_cell hb6 0).trans rfl
          have k61 : wr.cell? ⟨g6, 1, none⟩ = some (.slice Xp so.length xp) := (blk_cell hb6 1).trans rfl
          have j0 : wr.cell? ⟨w.heap.size + 1, 0, none⟩ = some (.slice none 0 0) := (blk_cell hb2 0).trans rfl
          have j1 : wr.cell? ⟨w.heap.size + 1, 1, none⟩ = some (.slice none 0 0) := (blk_cell hb2 1).trans rfl
          have f0 := blk_frozen hb2 0
          have f1 := blk_frozen hb2 1
          clear hB hb1 hb2 hb6 hR hS hinv hdo
          go_wp2
          exact ret30 rfl rfl rfl HB2.out (by show w.heap.size ≤ w.heap.size + 1; omega) HR.out HS.out HB.out _ rfl
    · have hn : ¬ (rightB l0_0 l0_1 = true ∧ l1.any (oddB l0_0.length) = false) := fun x => by rw [hany] at x; cases x.2
      rw [if_neg hn] at H
      simp only [Prod.mk.injEq] at H
      obtain ⟨rfl, rfl, rfl⟩ := H
      clear hb HS hn
      go_enter Try.func25, Try.ntmps25
      go_wp2_with fail
      generalize hU : World.alloc (World.alloc w _) _ = U
      obtain ⟨b1, b2⟩ : U.heap[w.heap.size]? = some (.cells #[.slice A0_0 l0_0.length c0_0, .slice A0_1 l0_1.length c0_1] 30 (0, 0)) ∧ U.heap[w.heap.size + 1]? = some (.cells #[.slice none 0 0, .slice none 0 0] 30 (0, 0)) := by rw [← hU]; exact ⟨heap_alloc2_old w _ _, heap_alloc2_new w _ _⟩
      have HB : Below w.heap.size w U := by rw [← hU]; exact below_alloc (below_alloc (Below.refl w.heap.size w) _) _
      clear hU
      refine (HRC.out U HB).mono ?_
      rintro e W1 ⟨rfl, hb⟩
      have b1' := blk_same b1 hb
      have B1 := Lib.hid b1'
      have B2 := Lib.hid (blk_same b2 hb)
      have HB1 := Lib.hid (HB.trans (hb.mono HB.size))
      have k0 : W1.cell? ⟨w.heap.size, 0, none⟩ = some (.slice A0_0 l0_0.length c0_0) := (blk_cell b1' 0).trans rfl
      have k1 : W1.cell? ⟨w.heap.size, 1, none⟩ = some (.slice A0_1 l0_1.length c0_1) := (blk_cell b1' 1).trans rfl
      clear b1 b2 b1' hb HB U
      go_wp2_with fail
      refine (oddF_calls l0_0.length _).mono ?_
      rintro e W2 ⟨rfl, hW2⟩
      have hb2 := (show Below W1.heap.size W1 W2 by rw [hW2]; exact below_alloc (Below.refl _ _) _)
      have hg := Lib.hid (show W2.heap[W1.heap.size]? = some (.cells #[.int .i64 l0_0.length] 3 (0, 0)) by rw [hW2]; exact heap_alloc_new _ _)
      have B1b := Lib.hid (blk_same B1.out hb2)
      have B2b := Lib.hid (blk_same B2.out hb2)
      have HB2 := Lib.hid (HB1.out.trans (hb2.mono HB1.out.size))
      clear hb2 hW2 B1 B2 HB1 k0 k1
      generalize W1.heap.size = g48 at *
      clear W1
      go_wp2_with fail
      refine (contains47_calls 73 #[.pointer (some ⟨g48, 0, none⟩)] (oddB l0_0.length) A1 c1 l1 _ (Kd.C_below HR2.out HB2.out) hc1 (Kd.C_max HR2.out) (fun _ _ => rfl) (fun x W hW => odd_calls x l0_0.length g48 _ W hg.out hW)).mono ?_
      rintro e W3 ⟨rfl, hb3⟩
      rw [hany]
      have b1' := blk_same B1b.out hb3
      have B2 := Lib.hid (blk_same B2b.out hb3)
      have HB1 := Lib.hid (HB2.out.trans (hb3.mono HB2.out.size))
      have k0 : W3.cell? ⟨w.heap.size, 0, none⟩ = some (.slice A0_0 l0_0.length c0_0) := (blk_cell b1' 0).trans rfl
      have k1 : W3.cell? ⟨w.heap.size, 1, none⟩ = some (.slice A0_1 l0_1.length c0_1) := (blk_cell b1' 1).trans rfl
      clear hb3 b1' hg B1b B2b HB2 hany
      go_wp2_with fail
      refine (HOW.out W3 HB1.out).mono ?_
      rintro e W2 ⟨v0, v1, rfl, ho0, ho1, hb⟩
      have B3' := Lib.hid (blk_same B2.out hb)
      have HB2 := Lib.hid (HB1.out.trans (hb.mono HB1.out.size))
      obtain ⟨Ao, co, e0⟩ := Kd.R_slice ho0
      obtain ⟨Ap, cp, e1⟩ := Kd.R_slice ho1
      subst e0
      subst e1
      have h0 := Lib.hid (Kd.R_lower ho0 HB1.out.size)
      have h1 := Lib.hid (Kd.R_lower ho1 HB1.out.size)
      have j0 : W2.cell? ⟨w.heap.size + 1, 0, none⟩ = some (.slice none 0 0) := (blk_cell B3'.out 0).trans rfl
      have j1 : W2.cell? ⟨w.heap.size + 1, 1, none⟩ = some (.slice none 0 0) := (blk_cell B3'.out 1).trans rfl
      have f0 := blk_frozen B3'.out 0
      have f1 := blk_frozen B3'.out 1
      clear hb ho0 ho1 k0 k1
      go_wp2
      exact ret30 rfl rfl rfl B3'.out (by show w.heap.size ≤ w.heap.size + 1; omega) h0.out h1.out HB2.out _ rfl
  · have hb' : rightB l0_0 l0_1 = false := by simpa using hb
    rw [if_neg (fun x => hb x.1)] at H
    rw [hb'] at HRC
    simp only [Prod.mk.injEq] at H
    obtain ⟨rfl, rfl, rfl⟩ := H
    clear hb hb'
    go_enter Try.func25, Try.ntmps25
    go_wp2_with fail
    generalize hU : World.alloc (World.alloc w _) _ = U
    obtain ⟨b1, b2⟩ : U.heap[w.heap.size]? = some (.cells #[.slice A0_0 l0_0.length c0_0, .slice A0_1 l0_1.length c0_1] 30 (0, 0)) ∧ U.heap[w.heap.size + 1]? = some (.cells #[.slice none 0 0, .slice none 0 0] 30 (0, 0)) := by rw [← hU]; exact ⟨heap_alloc2_old w _ _, heap_alloc2_new w _ _⟩
    have HB : Below w.heap.size w U := by rw [← hU]; exact below_alloc (below_alloc (Below.refl w.heap.size w) _) _
    clear hU
    refine (HRC.out U HB).mono ?_
    rintro e W1 ⟨rfl, hb⟩
    have b1' := blk_same b1 hb
    have B1 := Lib.hid b1'
    have B2 := Lib.hid (blk_same b2 hb)
    have HB1 := Lib.hid (HB.trans (hb.mono HB.size))
    have k0 : W1.cell? ⟨w.heap.size, 0, none⟩ = some (.slice A0_0 l0_0.length c0_0) := (blk_cell b1' 0).trans rfl
    have k1 : W1.cell? ⟨w.heap.size, 1, none⟩ = some (.slice A0_1 l0_1.length c0_1) := (blk_cell b1' 1).trans rfl
    clear b1 b2 b1' hb HB U
    go_wp2_with fail
    refine (HOW.out W1 HB1.out).mono ?_
    rintro e W2 ⟨v0, v1, rfl, ho0, ho1, hb⟩
    have B3' := Lib.hid (blk_same B2.out hb)
    have HB2 := Lib.hid (HB1.out.trans (hb.mono HB1.out.size))
    obtain ⟨Ao, co, e0⟩ := Kd.R_slice ho0
    obtain ⟨Ap, cp, e1⟩ := Kd.R_slice ho1
    subst e0
    subst e1
    have h0 := Lib.hid (Kd.R_lower ho0 HB1.out.size)
    have h1 := Lib.hid (Kd.R_lower ho1 HB1.out.size)
    have j0 : W2.cell? ⟨w.heap.size + 1, 0, none⟩ = some (.slice none 0 0) := (blk_cell B3'.out 0).trans rfl
    have j1 : W2.cell? ⟨w.heap.size + 1, 1, none⟩ = some (.slice none 0 0) := (blk_cell B3'.out 1).trans rfl
    have f0 := blk_frozen B3'.out 0
    have f1 := blk_frozen B3'.out 1
    clear hb ho0 ho1 k0 k1
    go_wp2
    exact ret30 rfl rfl rfl B3'.out (by show w.heap.size ≤ w.heap.size + 1; omega) h0.out h1.out HB2.out _ rfl
end Go.Proofs.Ytcfinlmocgbnbaa.Pr
end
section
namespace Go.Proofs
open Go.Shelf
open Go.RowKit in
def Try.lays169_ren : Go.Shelf.Ren := ⟨fun | 169 => 70 | n => n, fun | 70 => 101 | 9 => 9 | 0 => 0 | 72 => 103 | 37 => 49 | 127 => 128 | 3 => 3 | 5 => 5 | n => n, fun | n => n⟩
theorem Try.lays169 : Go.Proofs.Lays.n169 Try.prog Try.lays169_ren := {
  mixed := by kernel_rfl
  f169 := Try.func70.trans (congrArg some (by kernel_rfl))
  t0 := Try.underlying0
  a0 := Try.isAgg0
  z0 := Try.sizeOf0
  v0 := Try.zeroValue0
  t3 := Try.underlying3
  a3 := Try.isAgg3
  z3 := Try.sizeOf3
  v3 := Try.zeroValue3
  t9 := Try.underlying9
  a9 := Try.isAgg9
  z9 := Try.sizeOf9
  v9 := Try.zeroValue9
  t37 := Try.underlying49
  a37 := Try.isAgg49
  z37 := Try.sizeOf49
  v37 := Try.zeroValue49
  t70 := Try.underlying101
  a70 := Try.isAgg101
  z70 := Try.sizeOf101
  v70 := Try.zeroValue101
  t72 := Try.underlying103
  a72 := Try.isAgg103
  z72 := Try.sizeOf103
  v72 := Try.zeroValue103
  t127 := Try.underlying128
  a127 := Try.isAgg128
  z127 := Try.sizeOf128
  v127 := Try.zeroValue128 }
theorem Try.Builder_Extra_169 : Builder.Extra Try.prog Try.lays169_ren := {
  sizeBuilder := by kernel_rfl
  liesBuilder := by kernel_rfl
  t5 := Try.underlying5
  a5 := Try.isAgg5
  z5 := Try.sizeOf5
  v5 := Try.zeroValue5
  infoByte := by kernel_rfl
  cellsByte := by kernel_rfl
  sizeByte := by kernel_rfl
  neB5 := by decide }
open Go.RowKit in
open Go.RowKit in
open Go.RowKit in
open Go.RowKit in
open Go.RowKit in
open Go.RowKit in
open Go.RowKit in
open Go.RowKit in
open Go.RowKit in
open Go.RowKit in
open Go.RowKit in
open Go.RowKit in
theorem Try.Builder_String_any_k (B b : Nat) (l : List UInt8) (w : World) (h : Lib.IsBuilderF 103 5 B b (Lib.byteCells l) w) (hBw : B ≤ w.heap.size) :
    Calls Try.prog 70 #[.pointer (some ⟨b, 0, none⟩)] w fun e w' => e = .returned (.string ⟨l.toArray⟩) ∧ (Lib.IsBuilderF 103 5 B b (Lib.byteCells l) w' ∧ Below B w w' ∧ Lib.OthersKept 5 (some b) w w') := Any.Builder_String_any_k Try.lays169 Try.Builder_Extra_169 B b l w h hBw
open Go.RowKit in
open Go.RowKit in
open Go.RowKit Go.Lib in
open Go.RowKit Go.Lib in
open Go.RowKit Go.Lib in
open Go.RowKit Go.Lib in
def Try.lays105_ren : Go.Shelf.Ren := ⟨fun | 105 => 40 | 212 => 65 | 99 => 66 | 165 => 67 | 166 => 68 | 170 => 69 | 169 => 70 | 263 => 85 | 264 => 86 | 206 => 87 | 240 => 88 | 241 => 89 | 276 => 96 | 277 => 97 | n => n, fun | 9 => 9 | 3 => 3 | 4 => 4 | 20 => 20 | 0 => 0 | 46 => 97 | 109 => 98 | 5 => 5 | 72 => 103 | 76 => 107 | 51 => 122 | 146 => 123 | 53 => 125 | 148 => 126 | 70 => 101 | 37 => 49 | 75 => 106 | 127 => 128 | 164 => 133 | 80 => 90 | n => n, fun | n => n⟩
theorem Try.lays105 : Go.Proofs.Lays.n105 Try.prog Try.lays105_ren := {
  mixed := by kernel_rfl
  f99 := Try.func66.trans (congrArg some (by kernel_rfl))
  f105 := Try.func40.trans (congrArg some (by kernel_rfl))
  f165 := Try.func67.trans (congrArg some (by kernel_rfl))
  f166 := Try.func68.trans (congrArg some (by kernel_rfl))
  f169 := Try.func70.trans (congrArg some (by kernel_rfl))
  f170 := Try.func69.trans (congrArg some (by kernel_rfl))
  f206 := Try.func87.trans (congrArg some (by kernel_rfl))
  f212 := Try.func65.trans (congrArg some (by kernel_rfl))
  f240 := Try.func88.trans (congrArg some (by kernel_rfl))
  f241 := Try.func89.trans (congrArg some (by kernel_rfl))
  f263 := Try.func85.trans (congrArg some (by kernel_rfl))
  f264 := Try.func86.trans (congrArg some (by kernel_rfl))
  f276 := Try.func96.trans (congrArg some (by kernel_rfl))
  f277 := Try.func97.trans (congrArg some (by kernel_rfl))
  t0 := Try.underlying0
  a0 := Try.isAgg0
  z0 := Try.sizeOf0
  v0 := Try.zeroValue0
  t3 := Try.underlying3
  a3 := Try.isAgg3
  z3 := Try.sizeOf3
  v3 := Try.zeroValue3
  t4 := Try.underlying4
  a4 := Try.isAgg4
  z4 := Try.sizeOf4
  v4 := Try.zeroValue4
  t5 := Try.underlying5
  a5 := Try.isAgg5
  z5 := Try.sizeOf5
  v5 := Try.zeroValue5
  t9 := Try.underlying9
  a9 := Try.isAgg9
  z9 := Try.sizeOf9
  v9 := Try.zeroValue9
  t20 := Try.underlying20
  a20 := Try.isAgg20
  z20 := Try.sizeOf20
  v20 := Try.zeroValue20
  t37 := Try.underlying49
  a37 := Try.isAgg49
  z37 := Try.sizeOf49
  v37 := Try.zeroValue49
  t46 := Try.underlying97
  a46 := Try.isAgg97
  z46 := Try.sizeOf97
  v46 := Try.zeroValue97
  t51 := Try.underlying122
  a51 := Try.isAgg122
  z51 := Try.sizeOf122
  v51 := Try.zeroValue122
  t53 := Try.underlying125
  a53 := Try.isAgg125
  z53 := Try.sizeOf125
  v53 := Try.zeroValue125
  t70 := Try.underlying101
  a70 := Try.isAgg101
  z70 := Try.sizeOf101
  v70 := Try.zeroValue101
  t72 := Try.underlying103
  a72 := Try.isAgg103
  z72 := Try.sizeOf103
  v72 := Try.zeroValue103
  t75 := Try.underlying106
  a75 := Try.isAgg106
  z75 := Try.sizeOf106
  v75 := Try.zeroValue106
  t76 := Try.underlying107
  a76 := Try.isAgg107
  z76 := Try.sizeOf107
  v76 := Try.zeroValue107
  t109 := Try.underlying98
  a109 := Try.isAgg98
  z109 := Try.sizeOf98
  v109 := Try.zeroValue98
  t127 := Try.underlying128
  a127 := Try.isAgg128
  z127 := Try.sizeOf128
  v127 := Try.zeroValue128
  t146 := Try.underlying123
  a146 := Try.isAgg123
  z146 := Try.sizeOf123
  v146 := Try.zeroValue123
  t148 := Try.underlying126
  a148 := Try.isAgg126
  z148 := Try.sizeOf126
  v148 := Try.zeroValue126
  t164 := Try.underlying133
  a164 := Try.isAgg133
  z164 := Try.sizeOf133
  v164 := Try.zeroValue133 }
theorem Try.Builder_Extra_105 : Builder.Extra Try.prog Try.lays105_ren := {
  sizeBuilder := by kernel_rfl
  liesBuilder := by kernel_rfl
  t5 := Try.underlying5
  a5 := Try.isAgg5
  z5 := Try.sizeOf5
  v5 := Try.zeroValue5
  infoByte := by kernel_rfl
  cellsByte := by kernel_rfl
  sizeByte := by kernel_rfl
  neB5 := by decide }
open Go.RowKit Go.Lib in
open Go.RowKit Go.Lib in
open Go.RowKit Go.Lib in
open Go.RowKit Go.Lib in
open Go.RowKit Go.Lib in
open Go.RowKit Go.Lib in
open Go.RowKit Go.Lib in
theorem Try.strings_Repeat (s : ByteArray) (c : Nat) (w : World) (hc : c ≤ 9223372036854775807) (hlen : s.size * c ≤ 140737488355328) :
    Calls Try.prog 40 #[.string s, .int .i64 c] w fun e w' => e = .returned (.string ⟨(Lib.repeatL s.data.toList c).toArray⟩) ∧ Below w.heap.size w w' := Any.strings_Repeat Try.lays105 Try.Builder_Extra_105 s c w hc hlen
end Go.Proofs
end
section
namespace Go.Proofs.Ytcfinlmocgbnbaa.Pr
open Go.Proofs.Ytcfinlmocgbnbaa.Sq Go.RowKit Go.Shelf Go.Proofs.Ytcfinlmocgbnbaa.XB Go.Proofs.YtcfinlmocgbnbaaW.PrintWords Go.Proofs.YtcfinlmocgbnbaaW.PrintLast Go.Proofs.YtcfinlmocgbnbaaW.PrintMore
attribute [local go_sem] Oper.semAt_some
set_option linter.unusedVariables false
set_option linter.unusedSimpArgs false
def blank : ByteArray := ⟨(List.replicate 64 (0 : UInt8)).toArray⟩
theorem blank_size : blank.size = 64 := rfl
theorem repL_one (x : UInt8) : ∀ c : Nat, Lib.repeatL [x] c = List.replicate c x
  | 0 => rfl
  | c + 1 => by rw [List.replicate_succ, ← repL_one x c]; rfl
theorem blank_calls (w : World) : Calls Try.prog 40 #[.string ⟨#[0]⟩, .int .i64 64] w fun e w' => e = .returned (.string blank) ∧ Below w.heap.size w w' := by
  have h := Try.strings_Repeat ⟨#[0]⟩ 64 w (by omega) (by show 1 * 64 ≤ _; omega)
  have e : (⟨(Lib.repeatL (⟨#[0]⟩ : ByteArray).data.toList 64).toArray⟩ : ByteArray) = blank := by
    show (⟨(Lib.repeatL [0] 64).toArray⟩ : ByteArray) = blank
    rw [repL_one]
    rfl
  rw [e] at h
  exact h
def newB (n : Int) : List ByteArray × List S24 × Int := if 1 ≤ n ∧ n ≤ 400 then (List.replicate n.toNat blank, [], 0) else ([], [], 1)
end Go.Proofs.Ytcfinlmocgbnbaa.Pr
end
section
namespace Go.Proofs.Ytcfinlmocgbnbaa.Pr
open Go.RowKit Go.Shelf Go.Proofs.Ytcfinlmocgbnbaa.XB Go.Proofs.YtcfinlmocgbnbaaW.PrintWords
set_option linter.unusedVariables false
set_option linter.unusedSimpArgs false
def vault_blank.f : Option ByteArray := some blank
set_option maxRecDepth 100000 in
theorem vault_blank.calls (r : ByteArray) (w : World) (h : vault_blank.f = some r) : Calls Try.prog 57 #[] w fun e w' => e = .returned (.string r) ∧ Below w.heap.size w w' := by
  obtain rfl := Option.some.inj h
  go_enter Try.func57, Try.ntmps57
  go_wp2_with fail
  refine (blank_calls w).mono ?_
  rintro e W1 ⟨rfl, hb⟩
  go_wp2_with fail
  go_ret
  exact ⟨rfl, hb⟩
def num : List UInt8 → Nat → Nat
  | [], n => n
  | b :: l, n => num l (256 * n + b.toNat)
theorem num_ge : ∀ (l : List UInt8) (n : Nat), n ≤ num l n
  | [], n => Nat.le_refl _
  | b :: l, n => by have := num_ge l (256 * n + b.toNat); simp only [num]; omega
theorem or_byte (n b : Nat) (hb : b < 256) (h : 256 * n + b < 9223372036854775808) : Go.bits .or .i64 (wrap64 ((n : Int) * 256)) (b : Int) = ((256 * n + b : Nat) : Int) := by
  have e : wrap64 ((n : Int) * 256) = ((n * 256 : Nat) : Int) := by unfold wrap64; omega
  rw [e]
  have h1 : (BitVec.ofInt 64 ((n * 256 : Nat) : Int)).toNat = n * 256 := by
    rw [BitVec.ofInt_natCast, BitVec.toNat_ofNat]; exact Nat.mod_eq_of_lt (by omega)
  have h2 : (BitVec.ofInt 64 (b : Int)).toNat = b := by
    rw [BitVec.ofInt_natCast, BitVec.toNat_ofNat]; exact Nat.mod_eq_of_lt (by omega)
  have h3 : n * 256 ||| b = 256 * n + b := by
    rw [show n * 256 = 2 ^ 8 * n by omega, ← Nat.two_pow_add_eq_or_of_lt (show b < 2 ^ 8 from hb)]
  show IntKind.i64.wrap ((BitVec.ofInt 64 ((n * 256 : Nat) : Int) ||| BitVec.ofInt 64 (b : Int)).toNat : Int) = _
  rw [BitVec.toNat_or, h1, h2, h3, Go.Proofs.YtcfinlmocgbnbaaW.PrintLast.i64_w]
  unfold wrap64
  omega
def vault_take_int.f (s : ByteArray) : Option Int := if num s.data.toList 0 < 9223372036854775808 ∧ s.size ≤ 1000 then some (num s.data.toList 0 : Nat) else none
set_option maxRecDepth 100000 in
theorem vault_take_int.calls (s : ByteArray) (r : Int) (w : World) (h : vault_take_int.f s = some r) : Calls Try.prog 80 #[.string s] w fun e w' => e = .returned (.int .i64 r) ∧ Below w.heap.size w w' := by
  unfold vault_take_int.f at h
  by_cases hc0 : num s.data.toList 0 < 9223372036854775808 ∧ s.size ≤ 1000
  rotate_left
  · rw [if_neg hc0] at h; cases h
  rw [if_pos hc0] at h
  obtain rfl := Option.some.inj h
  obtain ⟨hN, hs⟩ := hc0
  have kb := fun W => print_bytes (P := Try.prog) 9 49 5 Try.underlying9 Try.underlying49 Try.underlying5 s W
  go_enter Try.func80, Try.ntmps80
  go_wp2
  clear kb
  have hc := fun j hj => Lib.bytesWorld_cell w 5 s j hj
  have hb : Below w.heap.size w (Lib.bytesWorld w 5 s) := bytes_below (Below.refl _ _) (Nat.le_refl _) _ _
  generalize Lib.bytesWorld w 5 s = W at *
  go_loop [2, 8] (fun x i => ∃ k n : Nat, k ≤ s.size ∧ i = .int .i64 k ∧ x = .int .i64 (n : Int) ∧ num (s.data.toList.drop k) n = num s.data.toList 0) (fun _ i => s.size - (intOf i).toNat)
  case atStart => exact ⟨0, 0, Nat.zero_le _, rfl, rfl, rfl⟩
  case round =>
    obtain ⟨k, n, hk, rfl, rfl, hn⟩ := hrel
    have hl : s.data.toList.length = s.size := Array.length_toList
    by_cases hlt : k < s.size
    · have hck := hc k hlt
      have hb8 : (s.data.toList.getD k 0).toNat < 256 := (s.data.toList.getD k 0).toNat_lt
      rw [List.drop_eq_getElem_cons (by omega)] at hn
      have hg : s.data.toList.getD k 0 = s.data.toList[k]'(by omega) := by rw [List.getD_eq_getElem?_getD, List.getElem?_eq_getElem (by omega)]; rfl
      simp only [num] at hn
      rw [← hg] at hn
      have hge := num_ge (s.data.toList.drop (k + 1)) (256 * n + (s.data.toList.getD k 0).toNat)
      rw [hn] at hge
      generalize s.data.toList.getD k 0 = b at *
      have HN := Lib.hid hn
      have HG := Lib.hid hge
      have HBl := Lib.hid hb
      have HNN := Lib.hid hN
      clear hge hn hc hl hb hN hg
      go_wp2
      go_round
      case rel => exact ⟨k + 1, 256 * n + b.toNat, by omega, by go_num, by rw [or_byte n _ hb8 (by have := HG.out; have := HNN.out; omega)], HN.out⟩
      case measure => simp [intOf]; omega
    · obtain rfl : k = s.size := by omega
      rw [List.drop_eq_nil_of_le (by omega)] at hn
      simp only [num] at hn
      subst hn
      clear hc
      go_wp2
      go_ret
      exact ⟨rfl, hb⟩
end Go.Proofs.Ytcfinlmocgbnbaa.Pr
end
section
namespace Go.Proofs.Ytcfinlmocgbnbaa.Pr
open Go.Proofs.Ytcfinlmocgbnbaa.Sq Go.RowKit Go.Proofs.YtcfinlmocgbnbaaW.PrintWords Go.Proofs.YtcfinlmocgbnbaaW.PrintLast Go.Proofs.YtcfinlmocgbnbaaW.PrintMore
attribute [local go_sem] max2_int min2_int max_two min_two max_three min_three max_four min_four
set_option linter.unusedVariables false
set_option linter.unusedSimpArgs false
def vault_Format.f (k : Nat) (l0_0 : List ByteArray) (l0_1 : List (S24)) : Option (List ByteArray × (List (S24)) × Int × Int × Int × Int) := (vault_may.f l0_0 l0_1).bind fun tz3 => (if tz3 = true then ((vault_book_head.f k ([] : List ByteArray) ([] : List (S24)) 0 0 0).bind fun tz4 => ((vault_blank.f).bind fun tz5 => ((disk_Do.f l0_0 l0_1 (([(⟨false, 0, tz4⟩ : S24), (⟨false, 1, tz5⟩ : S24), (⟨true, 0, (⟨#[]⟩ : ByteArray)⟩ : S24)] : List (S24)))).bind fun btz9 => (some (btz9.1, btz9.2.1, 0, 0, 0, btz9.2.2))))) else ((vault_own.f l0_0 l0_1).bind fun btz17 => (some (btz17.1, btz17.2, 0, 0, 0, 1))))
def vault_Format.T3 : Bool × List (List Nat × List Nat) := (true, [([], []), ([], []), ([1], [1]), ([2], [2]), ([2], []), ([4], [4]), ([], []), ([3, 5, 6], [3, 5, 6]), ([0, 7, 4], [0, 7]), ([8], [8]), ([9], [9]), ([9], [9]), ([], []), ([12, 10, 8, 0, 1, 2, 3, 4, 5, 6, 7, 8, 9, 10, 12], [10, 12]), ([11, 13, 0, 1, 2, 3, 4, 5, 6, 7, 8, 9, 10, 11, 12, 13], [11])])
def vault_Format.B3 : List Nat := [0, 0, 2, 6, 6, 22, 0, 126, 255, 511, 1023, 1023, 0, 6143, 16383]
theorem vault_Format.tab3 : rtab .any (opsOf Try.f30 3) = vault_Format.T3 := by kernel_rfl
theorem vault_Format.bits3 : waitsOk vault_Format.T3.2 vault_Format.B3 = true := by kernel_rfl
set_option maxHeartbeats 8000000 in
set_option maxRecDepth 100000 in
theorem vault_Format.calls (k : Nat) (A0_0 : Option Addr) (c0_0 : Nat) (l0_0 : List ByteArray) (A0_1 : Option Addr) (c0_1 : Nat) (l0_1 : List (S24)) (r1 : List ByteArray) (r2 : List (S24)) (r3 : Int) (r4 : Int) (r5 : Int) (r6 : Int) (w : World) (hr0_0 : Kd.C Kd.string w A0_0 l0_0.length l0_0) (hc0_0 : l0_0.length ≤ c0_0) (hr0_1 : Kd.C k24 w A0_1 l0_1.length l0_1) (hc0_1 : l0_1.length ≤ c0_1) (h : vault_Format.f k l0_0 l0_1 = some (r1, r2, r3, r4, r5, r6)) :
  Calls Try.prog 30 #[.agg #[.slice A0_0 l0_0.length c0_0, .slice A0_1 l0_1.length c0_1]] w fun e w' => ∃ v0_ v1_ : Value, e = .returned (.tuple #[.agg #[v0_, v1_, .int .i64 r3, .int .i64 r4, .int .i64 r5], .int .i64 r6]) ∧ Kd.R Kd.string 9 w' w.heap.size (fun _ => True) v0_ r1 ∧ Kd.R k24 24 w' w.heap.size (fun _ => True) v1_ r2 ∧ Below w.heap.size w w' := by
 have hu30 := Try.underlying30
 have hu56 := Try.underlying56
 have hu89 := Try.underlying89
 have hu24 := Try.underlying24
 have HR0_0 := am hr0_0
 have HC0_0 := am hc0_0
 clear hr0_0 hc0_0
 have HR0_1 := am hr0_1
 have HC0_1 := am hc0_1
 clear hr0_1 hc0_1
 have HB := am (Below.refl w.heap.size w)
 have H : ((vault_may.f l0_0 l0_1).bind fun tz3 => (if tz3 = true then ((vault_book_head.f k ([] : List ByteArray) ([] : List (S24)) 0 0 0).bind fun tz4 => ((vault_blank.f).bind fun tz5 => ((disk_Do.f l0_0 l0_1 (([(⟨false, 0, tz4⟩ : S24), (⟨false, 1, tz5⟩ : S24), (⟨true, 0, (⟨#[]⟩ : ByteArray)⟩ : S24)] : List (S24)))).bind fun btz9 => (some (btz9.1, btz9.2.1, 0, 0, 0, btz9.2.2))))) else ((vault_own.f l0_0 l0_1).bind fun btz17 => (some (btz17.1, btz17.2, 0, 0, 0, 1))))) = some (r1, r2, r3, r4, r5, r6) := h
 clear h
 replace H := ob_ H
 obtain ⟨tz3, A20, H⟩ := H
 replace H : (if tz3 = true then ((vault_book_head.f k ([] : List ByteArray) ([] : List (S24)) 0 0 0).bind fun tz4 => ((vault_blank.f).bind fun tz5 => ((disk_Do.f l0_0 l0_1 (([(⟨false, 0, tz4⟩ : S24), (⟨false, 1, tz5⟩ : S24), (⟨true, 0, (⟨#[]⟩ : ByteArray)⟩ : S24)] : List (S24)))).bind fun btz9 => (some (btz9.1, btz9.2.1, 0, 0, 0, btz9.2.2))))) else ((vault_own.f l0_0 l0_1).bind fun btz17 => (some (btz17.1, btz17.2, 0, 0, 0, 1)))) = some (r1, r2, r3, r4, r5, r6) := H
 have A2 := Aside0.mk A20
 clear A20
 by_cases c3 : tz3 = true
 rotate_left
 ·replace c3 := Bool.eq_false_iff.mpr c3
  subst c3
  have H1 : ((vault_own.f l0_0 l0_1).bind fun btz17 => (some (btz17.1, btz17.2, 0, 0, 0, 1))) = some (r1, r2, r3, r4, r5, r6) := by rw [if_neg (show ¬ (false = true) by decide)] at H; exact H
  clear H
  have H := H1
  clear H1
  replace H := ob_ H
  obtain ⟨⟨tz17, tz20⟩, A290, H⟩ := H
  replace H : (some (tz17, tz20, 0, 0, 0, 1)) = some (r1, r2, r3, r4, r5, r6) := H
  have A29 := Aside0.mk A290
  clear A290
  simp only [Option.some.injEq, Prod.mk.injEq] at H
  obtain ⟨rfl, rfl, rfl, rfl, rfl, rfl⟩ := H
  go_enter Try.func30, Try.ntmps30
  go_wp2_with (first | ((with_reducible refine gate_dst (N := 1) rfl ?_); refine box_event ?hg (N := 1) ?hd (cs := #[.slice A0_0 l0_0.length c0_0, .slice A0_1 l0_1.length c0_1]) (t := 30) ?hr ?_; (case hd => rfl); (case hg => rfl); (case hr => first | (go_simp; done) | (go_simp; rfl)); intro gbz1 hg w30 hbox hb; have n0_ := am (below_step (pb HB) hb); have n1_ := am (hbox); have n2_ := ge_ hg (pb HB); have n3_ := ge_ hg (pb HB); clear HB; have HB := n0_; have BKz1 := n1_; have GWz1 := n2_; have GEz1 := n3_; clear n0_ n1_ n2_ n3_; clear hb hbox hg) | ((with_reducible refine gate_dst (N := 2) rfl ?_); refine box_event ?hg (N := 2) ?hd (cs := #[.slice none 0 0, .slice none 0 0, .int .i64 0, .int .i64 0, .int .i64 0]) (t := 56) ?hr ?_; (case hd => rfl); (case hg => rfl); (case hr => first | (go_simp; done) | (go_simp; rfl)); intro gbz2 hg w31 hbox hb; have n0_ := am (bkB (pk BKz1) hb); have n1_ := am (below_step (by repeat first | (with_reducible first | exact HB.out | apply ba | apply bn | apply bd | refine bs (by assumption) ?_) | exact HB.out) hb); have n2_ := am (hbox); have n3_ := ge_ hg (by repeat first | (with_reducible first | exact HB.out | apply ba | apply bn | apply bd | refine bs (by assumption) ?_) | exact HB.out); have n4_ := ge_ hg (by repeat first | (with_reducible first | exact HB.out | apply ba | apply bn | apply bd | refine bs (by assumption) ?_) | exact HB.out); have n5_ := nl_ hg BKz1; have n6_ := ng_ hg BKz1; clear BKz1; clear HB; have BKz1 := n0_; have HB := n1_; have BKz2 := n2_; have GWz2 := n3_; have GEz2 := n4_; have NBz1_z2 := n5_; have NBz2_z1 := n6_; clear n0_ n1_ n2_ n3_ n4_ n5_ n6_; clear hb hbox hg; have hnb32 := NBz1_z2.out; have hnc32 := NBz2_z1.out; obtain ⟨hcz33_0, hcz33_1⟩ := bc2 BKz1; obtain ⟨hfz33_0, hfz33_1⟩ := bf2 BKz1) | ((with_reducible refine gate_callee (f := 54) rfl ?_); refine goesL_ (some 7) rfl rfl Try.func54 (by kernel_rfl) rfl #[.agg #[.slice A0_0 l0_0.length c0_0, .slice A0_1 l0_1.length c0_1]] rfl (by (try simp only [List.map_toArray, List.map_cons, List.map_nil]) <;> rfl) ?_; (with_reducible refine (vault_may.calls _ _ l0_0 _ _ l0_1 false _ ?side1 ?side2 ?side3 ?side4 A2.out).mono ?_); (case side1 => repeat (first | exact (Kd.C_below HR0_0.out HB.out) | (with_reducible refine Kd.C_alloc ?_ _) | (with_reducible refine Kd.C_drewN ?_ _) | (with_reducible refine Kd.C_drew ?_))); (case side2 => exact HC0_0.out); (case side3 => repeat (first | exact (Kd.C_below HR0_1.out HB.out) | (with_reducible refine Kd.C_alloc ?_ _) | (with_reducible refine Kd.C_drewN ?_ _) | (with_reducible refine Kd.C_drew ?_))); (case side4 => exact HC0_1.out); rintro e w34 ⟨rfl, hb⟩; refine ⟨_, rfl, ?_⟩; have n0_ := am (bkB (pk BKz1) hb); have n1_ := am (bkB (pk BKz2) hb); have n2_ := am (below_step (by repeat first | (with_reducible first | exact HB.out | apply ba | apply bn | apply bd | refine bs (by assumption) ?_) | exact HB.out) hb); clear BKz1; clear BKz2; clear HB; have BKz1 := n0_; have BKz2 := n1_; have HB := n2_; clear n0_ n1_ n2_; obtain ⟨hcz35_0, hcz35_1⟩ := bc2 BKz1; obtain ⟨hfz35_0, hfz35_1⟩ := bf2 BKz1) | ((with_reducible refine gate_callee (f := 55) rfl ?_); refine goesL_ (some 10) rfl rfl Try.func55 (by kernel_rfl) rfl #[.agg #[.slice A0_0 l0_0.length c0_0, .slice A0_1 l0_1.length c0_1]] rfl (by (try simp only [List.map_toArray, List.map_cons, List.map_nil]) <;> rfl) ?_; (with_reducible refine (vault_own.calls _ _ l0_0 _ _ l0_1 tz17 tz20 _ ?side1 ?side2 ?side3 ?side4 A29.out).mono ?_); (case side1 => repeat (first | exact (Kd.C_below HR0_0.out HB.out) | (with_reducible refine Kd.C_alloc ?_ _) | (with_reducible refine Kd.C_drewN ?_ _) | (with_reducible refine Kd.C_drew ?_))); (case side2 => exact HC0_0.out); (case side3 => repeat (first | exact (Kd.C_below HR0_1.out HB.out) | (with_reducible refine Kd.C_alloc ?_ _) | (with_reducible refine Kd.C_drewN ?_ _) | (with_reducible refine Kd.C_drew ?_))); (case side4 => exact HC0_1.out); rintro e w36 ⟨vz18, vz21, rfl, ho0, ho1, hb⟩; refine ⟨_, rfl, ?_⟩; have n0_ := am (Kd.R_lower ho0 (below_size (by repeat first | (with_reducible first | exact HB.out | apply ba | apply bn | apply bd | refine bs (by assumption) ?_) | exact HB.out))); have n1_ := am (Kd.R_lower ho1 (below_size (by repeat first | (with_reducible first | exact HB.out | apply ba | apply bn | apply bd | refine bs (by assumption) ?_) | exact HB.out))); have n2_ := am (bkB (pk BKz1) hb); have n3_ := am (bkB (pk BKz2) hb); have n4_ := am (below_step (by repeat first | (with_reducible first | exact HB.out | apply ba | apply bn | apply bd | refine bs (by assumption) ?_) | exact HB.out) hb); clear BKz1; clear BKz2; clear HB; have HOz19 := n0_; have HOz22 := n1_; have BKz1 := n2_; have BKz2 := n3_; have HB := n4_; clear n0_ n1_ n2_ n3_ n4_; obtain ⟨Ao37, co37, eo37⟩ := Kd.R_slice HOz22.out; subst eo37; obtain ⟨Ao38, co38, eo38⟩ := Kd.R_slice HOz19.out; subst eo38; obtain ⟨hcz39_0, hcz39_1, hcz39_2, hcz39_3, hcz39_4⟩ := bc5 BKz2; obtain ⟨hfz39_0, hfz39_1, hfz39_2, hfz39_3, hfz39_4⟩ := bf5 BKz2))
  refine bodyPost_ret (results_ct rfl _ _ gbz2 56 #[.slice Ao38 tz17.length co38, .slice Ao37 tz20.length co37, .int .i64 0, .int .i64 0, .int .i64 0] (0, 0) _ rfl (by (with_reducible repeat (first | refine blk_drewN ?_ _ | refine bkD ?_ | refine bkA ?_ _)); apply bp5; exact pk BKz2) Try.underlying56 rfl (by kernel_rfl)) rfl ?_
  exact ⟨_, _, by first | rfl | (simp <;> rfl) | (simp [*] <;> rfl), by (with_reducible repeat first | apply ra | apply rn | apply rd); exact Kd.R_mono (rf5 (Kd.R_types HOz19.out BKz2.out (by decide)) (fun _ hk => hk.2)) (fun _ hk => trivial), by (with_reducible repeat first | apply ra | apply rn | apply rd); exact Kd.R_mono (rf5 (Kd.R_types HOz22.out BKz2.out (by decide)) (fun _ hk => hk.2)) (fun _ hk => trivial), by repeat first | (with_reducible first | exact HB.out | apply ba | apply bn | apply bd | refine bs (by assumption) ?_) | exact HB.out⟩
 subst c3
 have H1 : ((vault_book_head.f k ([] : List ByteArray) ([] : List (S24)) 0 0 0).bind fun tz4 => ((vault_blank.f).bind fun tz5 => ((disk_Do.f l0_0 l0_1 (([(⟨false, 0, tz4⟩ : S24), (⟨false, 1, tz5⟩ : S24), (⟨true, 0, (⟨#[]⟩ : ByteArray)⟩ : S24)] : List (S24)))).bind fun btz9 => (some (btz9.1, btz9.2.1, 0, 0, 0, btz9.2.2))))) = some (r1, r2, r3, r4, r5, r6) := by rw [if_pos rfl] at H; exact H
 clear H
 have H := H1
 clear H1
 replace H := ob_ H
 obtain ⟨tz4, A40, H⟩ := H
 replace H : ((vault_blank.f).bind fun tz5 => ((disk_Do.f l0_0 l0_1 (([(⟨false, 0, tz4⟩ : S24), (⟨false, 1, tz5⟩ : S24), (⟨true, 0, (⟨#[]⟩ : ByteArray)⟩ : S24)] : List (S24)))).bind fun btz9 => (some (btz9.1, btz9.2.1, 0, 0, 0, btz9.2.2)))) = some (r1, r2, r3, r4, r5, r6) := H
 have A4 := Aside0.mk A40
 clear A40
 replace H := ob_ H
 obtain ⟨tz5, A50, H⟩ := H
 replace H : ((disk_Do.f l0_0 l0_1 (([(⟨false, 0, tz4⟩ : S24), (⟨false, 1, tz5⟩ : S24), (⟨true, 0, (⟨#[]⟩ : ByteArray)⟩ : S24)] : List (S24)))).bind fun btz9 => (some (btz9.1, btz9.2.1, 0, 0, 0, btz9.2.2))) = some (r1, r2, r3, r4, r5, r6) := H
 have A5 := Aside0.mk A50
 clear A50
 obtain ⟨yz6, hyz6⟩ : ∃ y_ : List (S24), y_ = (([(⟨false, 0, tz4⟩ : S24), (⟨false, 1, tz5⟩ : S24), (⟨true, 0, (⟨#[]⟩ : ByteArray)⟩ : S24)] : List (S24))) := ⟨_, rfl⟩
 replace H : ((disk_Do.f l0_0 l0_1 yz6).bind fun btz9 => (some (btz9.1, btz9.2.1, 0, 0, 0, btz9.2.2))) = some (r1, r2, r3, r4, r5, r6) := by first | (rw [hyz6]; with_reducible exact H) | (have H2_ := (Option.bind_some _ _).symm.trans H; rw [hyz6]; with_reducible exact H2_) | (have H2_ := (Option.bind_some _ _).symm.trans H; with_reducible exact H2_) | with_reducible exact H | (rw [hyz6]; exact H) | exact H
 have Nyz6 := am hyz6
 clear hyz6
 replace H := ob_ H
 obtain ⟨⟨tz9, tz12, tz15⟩, A60, H⟩ := H
 replace H : (some (tz9, tz12, 0, 0, 0, tz15)) = some (r1, r2, r3, r4, r5, r6) := H
 have A6 := Aside0.mk A60
 clear A60
 simp only [Option.some.injEq, Prod.mk.injEq] at H
 obtain ⟨rfl, rfl, rfl, rfl, rfl, rfl⟩ := H
 go_enter Try.func30, Try.ntmps30
 try go_wp2_with (first | ((with_reducible refine gate_dst (N := 1) rfl ?_); refine box_event ?hg (N := 1) ?hd (cs := #[.slice A0_0 l0_0.length c0_0, .slice A0_1 l0_1.length c0_1]) (t := 30) ?hr ?_; (case hd => rfl); (case hg => rfl); (case hr => first | (go_simp; done) | (go_simp; rfl)); intro gbz1 hg w7 hbox hb; have n0_ := am (below_step (pb HB) hb); have n1_ := am (hbox); have n2_ := ge_ hg (pb HB); have n3_ := ge_ hg (pb HB); clear HB; have HB := n0_; have BKz1 := n1_; have GWz1 := n2_; have GEz1 := n3_; clear n0_ n1_ n2_ n3_; clear hb hbox hg) | ((with_reducible refine gate_dst (N := 2) rfl ?_); refine box_event ?hg (N := 2) ?hd (cs := #[.slice none 0 0, .slice none 0 0, .int .i64 0, .int .i64 0, .int .i64 0]) (t := 56) ?hr ?_; (case hd => rfl); (case hg => rfl); (case hr => first | (go_simp; done) | (go_simp; rfl)); intro gbz2 hg w8 hbox hb; have n0_ := am (bkB (pk BKz1) hb); have n1_ := am (below_step (by repeat first | (with_reducible first | exact HB.out | apply ba | apply bn | apply bd | refine bs (by assumption) ?_) | exact HB.out) hb); have n2_ := am (hbox); have n3_ := ge_ hg (by repeat first | (with_reducible first | exact HB.out | apply ba | apply bn | apply bd | refine bs (by assumption) ?_) | exact HB.out); have n4_ := ge_ hg (by repeat first | (with_reducible first | exact HB.out | apply ba | apply bn | apply bd | refine bs (by assumption) ?_) | exact HB.out); have n5_ := nl_ hg BKz1; have n6_ := ng_ hg BKz1; clear BKz1; clear HB; have BKz1 := n0_; have HB := n1_; have BKz2 := n2_; have GWz2 := n3_; have GEz2 := n4_; have NBz1_z2 := n5_; have NBz2_z1 := n6_; clear n0_ n1_ n2_ n3_ n4_ n5_ n6_; clear hb hbox hg; have hnb9 := NBz1_z2.out; have hnc9 := NBz2_z1.out; obtain ⟨hcz10_0, hcz10_1⟩ := bc2 BKz1; obtain ⟨hfz10_0, hfz10_1⟩ := bf2 BKz1) | ((with_reducible refine gate_callee (f := 54) rfl ?_); refine goesL_ (some 7) rfl rfl Try.func54 (by kernel_rfl) rfl #[.agg #[.slice A0_0 l0_0.length c0_0, .slice A0_1 l0_1.length c0_1]] rfl (by (try simp only [List.map_toArray, List.map_cons, List.map_nil]) <;> rfl) ?_; (with_reducible refine (vault_may.calls _ _ l0_0 _ _ l0_1 true _ ?side1 ?side2 ?side3 ?side4 A2.out).mono ?_); (case side1 => repeat (first | exact (Kd.C_below HR0_0.out HB.out) | (with_reducible refine Kd.C_alloc ?_ _) | (with_reducible refine Kd.C_drewN ?_ _) | (with_reducible refine Kd.C_drew ?_))); (case side2 => exact HC0_0.out); (case side3 => repeat (first | exact (Kd.C_below HR0_1.out HB.out) | (with_reducible refine Kd.C_alloc ?_ _) | (with_reducible refine Kd.C_drewN ?_ _) | (with_reducible refine Kd.C_drew ?_))); (case side4 => exact HC0_1.out); rintro e w11 ⟨rfl, hb⟩; refine ⟨_, rfl, ?_⟩; have n0_ := am (bkB (pk BKz1) hb); have n1_ := am (bkB (pk BKz2) hb); have n2_ := am (below_step (by repeat first | (with_reducible first | exact HB.out | apply ba | apply bn | apply bd | refine bs (by assumption) ?_) | exact HB.out) hb); clear BKz1; clear BKz2; clear HB; have BKz1 := n0_; have BKz2 := n1_; have HB := n2_; clear n0_ n1_ n2_; (try clear hi)))
 have n0_ := am (bkD BKz1.out)
 have n1_ := am (bkD BKz2.out)
 have n2_ := am (below_drew1 HB.out)
 clear BKz1 BKz2 HB; have BKz1 := n0_; have BKz2 := n1_; have HB := n2_; clear n0_ n1_ n2_
 refine start_ (n := 15) (S := fun w' => w'.cell? ⟨gbz1, 0, none⟩ = some (.slice A0_0 l0_0.length c0_0) ∧ w'.cell? ⟨gbz1, 1, none⟩ = some (.slice A0_1 l0_1.length c0_1)) (ds := []) #[false, false, false, false, false, false, false, false, false, false, false, false, false, false, false] (by kernel_rfl) rfl rfl (bc2 BKz1) (fun hHeld => ?_); refine with_tabW vault_Format.tab3 vault_Format.bits3 (fun HT_ HW_ => ?_)
 generalize w11.drew = w12 at BKz1 BKz2 HB hHeld ⊢
 refine pu_ 1 (some 14) HT_ rfl rfl (.inl ⟨by rfl, by intro w'; go_simp; with_reducible rfl⟩) (by simp only [Act.put, sa_, s0_, s1_, i64_w, i32_w]; rfl) ?_
 refine pu_ 6 (some 19) HT_ rfl rfl (.inl ⟨by rfl, by intro w'; go_simp; with_reducible rfl⟩) (by simp only [Act.put, sa_, s0_, s1_, i64_w, i32_w]; rfl) ?_
 refine tk_ 0 (some 13) HT_ HW_ rfl rfl (.inl ⟨by rfl, by rintro w' ⟨s0, s1⟩; go_simp; with_reducible rfl⟩) hHeld (by simp only [Act.put, sa_, s0_, s1_, i64_w, i32_w]; rfl) ?_
 refine join_ (σ := Value × Value × Value × Nat) 2 #[true, true, true, true, true, true, true, true, true, true, true, true, true, false, false] (fun s_ => [(15, .string tz4), (17, .string tz5), (20, s_.1), (21, .tuple #[.agg #[s_.2.1, s_.2.2.1], .int .i64 tz15]), (4, .pointer (some ⟨s_.2.2.2, 0, none⟩)), (16, .agg #[.bool false, .int .i64 0, .string tz4]), (18, .agg #[.bool false, .int .i64 1, .string tz5]), (12, .tuple #[.agg #[s_.2.1, s_.2.2.1], .int .i64 tz15]), (22, .agg #[s_.2.1, s_.2.2.1]), (23, .int .i64 tz15)]) (fun s_ w' => (w'.cell? ⟨gbz1, 0, none⟩ = some (.slice A0_0 l0_0.length c0_0) ∧ w'.cell? ⟨gbz1, 1, none⟩ = some (.slice A0_1 l0_1.length c0_1)) ∧ (Kd.R k24 24 w' w.heap.size (fun k_ => some k_ ≠ (s_.2.2.1 : Value).ownBlock) s_.1 yz6) ∧ (Kd.R Kd.string 9 w' w.heap.size (fun _ => True) s_.2.1 tz9) ∧ (Kd.R k24 24 w' w.heap.size (fun k_ => some k_ ≠ (s_.1 : Value).ownBlock) s_.2.2.1 tz12) ∧ (w'.heap[gbz1]? = some (.cells #[.slice A0_0 l0_0.length c0_0, .slice A0_1 l0_1.length c0_1] 30 (0, 0))) ∧ (w'.heap[gbz2]? = some (.cells #[.slice none 0 0, .slice none 0 0, .int .i64 0, .int .i64 0, .int .i64 0] 56 (0, 0))) ∧ (w'.heap[s_.2.2.2]? = some (.cells #[.slice none 0 0, .slice none 0 0] 30 (0, 0))) ∧ (w.heap.size ≤ s_.2.2.2) ∧ (w.heap.size ≤ s_.2.2.2) ∧ (gbz1 ≠ s_.2.2.2) ∧ (s_.2.2.2 ≠ gbz1) ∧ (gbz2 ≠ s_.2.2.2) ∧ (s_.2.2.2 ≠ gbz2) ∧ (Below w.heap.size w w')) ?_ ?_
 rotate_left
 ·intro hJ2_4_7_8_12
  refine join_ (σ := Value × Value × Value) 3 #[true, true, true, true, true, true, true, true, true, true, true, true, false, false, false] (fun s_ => [(15, .string tz4), (17, .string tz5), (20, s_.1), (21, .tuple #[.agg #[s_.2.1, s_.2.2], .int .i64 tz15]), (16, .agg #[.bool false, .int .i64 0, .string tz4]), (18, .agg #[.bool false, .int .i64 1, .string tz5]), (12, .tuple #[.agg #[s_.2.1, s_.2.2], .int .i64 tz15]), (22, .agg #[s_.2.1, s_.2.2]), (23, .int .i64 tz15)]) (fun s_ w' => (w'.cell? ⟨gbz1, 0, none⟩ = some (.slice A0_0 l0_0.length c0_0) ∧ w'.cell? ⟨gbz1, 1, none⟩ = some (.slice A0_1 l0_1.length c0_1)) ∧ (Kd.R k24 24 w' w.heap.size (fun k_ => some k_ ≠ (s_.2.2 : Value).ownBlock) s_.1 yz6) ∧ (Kd.R Kd.string 9 w' w.heap.size (fun _ => True) s_.2.1 tz9) ∧ (Kd.R k24 24 w' w.heap.size (fun k_ => some k_ ≠ (s_.1 : Value).ownBlock) s_.2.2 tz12) ∧ (w'.heap[gbz1]? = some (.cells #[.slice A0_0 l0_0.length c0_0, .slice A0_1 l0_1.length c0_1] 30 (0, 0))) ∧ (w'.heap[gbz2]? = some (.cells #[.slice none 0 0, .slice none 0 0, .int .i64 0, .int .i64 0, .int .i64 0] 56 (0, 0))) ∧ (Below w.heap.size w w')) ?_ ?_
  rotate_left
  ·intro hJ2_4_7_8
   refine join_ (σ := Value × Nat) 6 #[true, true, true, true, true, true, true, true, false, false, false, false, true, false, false] (fun s_ => [(15, .string tz4), (17, .string tz5), (20, s_.1), (4, .pointer (some ⟨s_.2, 0, none⟩)), (16, .agg #[.bool false, .int .i64 0, .string tz4]), (18, .agg #[.bool false, .int .i64 1, .string tz5])]) (fun s_ w' => (w'.cell? ⟨gbz1, 0, none⟩ = some (.slice A0_0 l0_0.length c0_0) ∧ w'.cell? ⟨gbz1, 1, none⟩ = some (.slice A0_1 l0_1.length c0_1)) ∧ (Kd.R k24 24 w' w.heap.size (fun _ => True) s_.1 yz6) ∧ (w'.heap[gbz1]? = some (.cells #[.slice A0_0 l0_0.length c0_0, .slice A0_1 l0_1.length c0_1] 30 (0, 0))) ∧ (w'.heap[gbz2]? = some (.cells #[.slice none 0 0, .slice none 0 0, .int .i64 0, .int .i64 0, .int .i64 0] 56 (0, 0))) ∧ (w'.heap[s_.2]? = some (.cells #[.slice none 0 0, .slice none 0 0] 30 (0, 0))) ∧ (w.heap.size ≤ s_.2) ∧ (w.heap.size ≤ s_.2) ∧ (gbz1 ≠ s_.2) ∧ (s_.2 ≠ gbz1) ∧ (gbz2 ≠ s_.2) ∧ (s_.2 ≠ gbz2) ∧ (Below w.heap.size w w')) ?_ ?_
   rotate_left
   ·intro hJ2_4_7_12
    refine join_ (σ := Value) 7 #[true, true, true, true, true, true, true, true, false, false, false, false, false, false, false] (fun s_ => [(15, .string tz4), (17, .string tz5), (20, s_), (16, .agg #[.bool false, .int .i64 0, .string tz4]), (18, .agg #[.bool false, .int .i64 1, .string tz5])]) (fun s_ w' => (w'.cell? ⟨gbz1, 0, none⟩ = some (.slice A0_0 l0_0.length c0_0) ∧ w'.cell? ⟨gbz1, 1, none⟩ = some (.slice A0_1 l0_1.length c0_1)) ∧ (Kd.R k24 24 w' w.heap.size (fun _ => True) s_ yz6) ∧ (w'.heap[gbz1]? = some (.cells #[.slice A0_0 l0_0.length c0_0, .slice A0_1 l0_1.length c0_1] 30 (0, 0))) ∧ (w'.heap[gbz2]? = some (.cells #[.slice none 0 0, .slice none 0 0, .int .i64 0, .int .i64 0, .int .i64 0] 56 (0, 0))) ∧ (Below w.heap.size w w')) ?_ ?_
    rotate_left
    ·intro hJ2_4_7
     refine join_ (σ := Nat) 7 #[true, true, true, true, true, true, true, false, false, false, false, false, true, false, false] (fun s_ => [(15, .string tz4), (17, .string tz5), (4, .pointer (some ⟨s_, 0, none⟩)), (16, .agg #[.bool false, .int .i64 0, .string tz4]), (18, .agg #[.bool false, .int .i64 1, .string tz5])]) (fun s_ w' => (w'.cell? ⟨gbz1, 0, none⟩ = some (.slice A0_0 l0_0.length c0_0) ∧ w'.cell? ⟨gbz1, 1, none⟩ = some (.slice A0_1 l0_1.length c0_1)) ∧ (w'.heap[gbz1]? = some (.cells #[.slice A0_0 l0_0.length c0_0, .slice A0_1 l0_1.length c0_1] 30 (0, 0))) ∧ (w'.heap[gbz2]? = some (.cells #[.slice none 0 0, .slice none 0 0, .int .i64 0, .int .i64 0, .int .i64 0] 56 (0, 0))) ∧ (w'.heap[s_]? = some (.cells #[.slice none 0 0, .slice none 0 0] 30 (0, 0))) ∧ (w.heap.size ≤ s_) ∧ (w.heap.size ≤ s_) ∧ (gbz1 ≠ s_) ∧ (s_ ≠ gbz1) ∧ (gbz2 ≠ s_) ∧ (s_ ≠ gbz2) ∧ (Below w.heap.size w w')) ?_ ?_
     rotate_left
     ·intro hJ2_4_12
      refine join_ (σ := Unit) 8 #[true, true, true, true, true, true, true, false, false, false, false, false, false, false, false] (fun s_ => [(15, .string tz4), (17, .string tz5), (16, .agg #[.bool false, .int .i64 0, .string tz4]), (18, .agg #[.bool false, .int .i64 1, .string tz5])]) (fun s_ w' => (w'.cell? ⟨gbz1, 0, none⟩ = some (.slice A0_0 l0_0.length c0_0) ∧ w'.cell? ⟨gbz1, 1, none⟩ = some (.slice A0_1 l0_1.length c0_1)) ∧ (w'.heap[gbz1]? = some (.cells #[.slice A0_0 l0_0.length c0_0, .slice A0_1 l0_1.length c0_1] 30 (0, 0))) ∧ (w'.heap[gbz2]? = some (.cells #[.slice none 0 0, .slice none 0 0, .int .i64 0, .int .i64 0, .int .i64 0] 56 (0, 0))) ∧ (Below w.heap.size w w')) ?_ ?_
      rotate_left
      ·intro hJ2_4
       refine join_ (σ := Nat) 9 #[true, true, true, true, false, false, true, false, false, false, false, false, true, false, false] (fun s_ => [(15, .string tz4), (4, .pointer (some ⟨s_, 0, none⟩)), (16, .agg #[.bool false, .int .i64 0, .string tz4])]) (fun s_ w' => (w'.cell? ⟨gbz1, 0, none⟩ = some (.slice A0_0 l0_0.length c0_0) ∧ w'.cell? ⟨gbz1, 1, none⟩ = some (.slice A0_1 l0_1.length c0_1)) ∧ (w'.heap[gbz1]? = some (.cells #[.slice A0_0 l0_0.length c0_0, .slice A0_1 l0_1.length c0_1] 30 (0, 0))) ∧ (w'.heap[gbz2]? = some (.cells #[.slice none 0 0, .slice none 0 0, .int .i64 0, .int .i64 0, .int .i64 0] 56 (0, 0))) ∧ (w'.heap[s_]? = some (.cells #[.slice none 0 0, .slice none 0 0] 30 (0, 0))) ∧ (w.heap.size ≤ s_) ∧ (w.heap.size ≤ s_) ∧ (gbz1 ≠ s_) ∧ (s_ ≠ gbz1) ∧ (gbz2 ≠ s_) ∧ (s_ ≠ gbz2) ∧ (Below w.heap.size w w')) ?_ ?_
       rotate_left
       ·intro hJ2_12
        refine join_ (σ := Unit) 10 #[true, true, true, true, false, false, true, false, false, false, false, false, false, false, false] (fun s_ => [(15, .string tz4), (16, .agg #[.bool false, .int .i64 0, .string tz4])]) (fun s_ w' => (w'.cell? ⟨gbz1, 0, none⟩ = some (.slice A0_0 l0_0.length c0_0) ∧ w'.cell? ⟨gbz1, 1, none⟩ = some (.slice A0_1 l0_1.length c0_1)) ∧ (w'.heap[gbz1]? = some (.cells #[.slice A0_0 l0_0.length c0_0, .slice A0_1 l0_1.length c0_1] 30 (0, 0))) ∧ (w'.heap[gbz2]? = some (.cells #[.slice none 0 0, .slice none 0 0, .int .i64 0, .int .i64 0, .int .i64 0] 56 (0, 0))) ∧ (Below w.heap.size w w')) ?_ ?_
        rotate_left
        ·intro hJ2
         refine join_ (σ := Nat) 11 #[true, true, false, false, false, false, true, false, false, false, false, false, true, false, false] (fun s_ => [(4, .pointer (some ⟨s_, 0, none⟩))]) (fun s_ w' => (w'.cell? ⟨gbz1, 0, none⟩ = some (.slice A0_0 l0_0.length c0_0) ∧ w'.cell? ⟨gbz1, 1, none⟩ = some (.slice A0_1 l0_1.length c0_1)) ∧ (w'.heap[gbz1]? = some (.cells #[.slice A0_0 l0_0.length c0_0, .slice A0_1 l0_1.length c0_1] 30 (0, 0))) ∧ (w'.heap[gbz2]? = some (.cells #[.slice none 0 0, .slice none 0 0, .int .i64 0, .int .i64 0, .int .i64 0] 56 (0, 0))) ∧ (w'.heap[s_]? = some (.cells #[.slice none 0 0, .slice none 0 0] 30 (0, 0))) ∧ (w.heap.size ≤ s_) ∧ (w.heap.size ≤ s_) ∧ (gbz1 ≠ s_) ∧ (s_ ≠ gbz1) ∧ (gbz2 ≠ s_) ∧ (s_ ≠ gbz2) ∧ (Below w.heap.size w w')) ?_ ?_
         rotate_left
         ·intro hJ12
          refine two_ (i := 2) (j := 12) (Ni := some 15) (Nj := some 4) #[true, true, true, false, false, false, true, false, false, false, false, false, false, false, false] #[true, true, false, false, false, false, true, false, false, false, false, false, true, false, false] rfl rfl rfl rfl (two_of HT_.out (by kernel_rfl)) (by decide) (by decide) (fun K hK => ?_) (fun K hK => ?_)
          ·skip
           refine goes_ Try.func56 (by kernel_rfl) rfl #[.agg #[.slice none 0 0, .slice none 0 0, .int .i64 0, .int .i64 0, .int .i64 0]] (by rfl) rfl rfl (by (try simp only [List.map_toArray, List.map_cons, List.map_nil]) <;> rfl) ?_
           refine (vault_book_head.calls k _ _ ([] : List ByteArray) _ _ ([] : List (S24)) 0 0 0 tz4 _ ?side1 ?side2 ?side3 ?side4 A4.out).mono ?_
           (case side1 => exact Kd.C_nil _ _)
           (case side2 => exact Nat.le_refl _)
           (case side3 => exact Kd.C_nil _ _)
           (case side4 => exact Nat.le_refl _)
           rintro e w13 ⟨rfl, hb⟩
           refine ⟨_, rfl, ?_⟩
           have n0_ := am (bkB (pk BKz1) hb)
           have n1_ := am (bkB (pk BKz2) hb)
           have n2_ := am (below_step (by repeat first | (with_reducible first | exact HB.out | apply ba | apply bn | apply bd | refine bs (by assumption) ?_) | exact HB.out) hb)
           clear BKz1 BKz2 HB; have BKz1 := n0_; have BKz2 := n1_; have HB := n2_; clear n0_ n1_ n2_; refine hK.out _ _ (bc2 BKz1) (fun hHeld => ?_)
           clear hK K
           refine norm_ (by show Act.put _ (some 15) _ = _; simp only [Act.put, sa_, s0_, s1_, i64_w, i32_w]; rfl) ?_
           refine pu_ 3 (some 16) HT_ rfl rfl (.inl ⟨by rfl, by intro w'; go_simp; with_reducible rfl⟩) (by simp only [Act.put, sa_, s0_, s1_, i64_w, i32_w]; rfl) ?_
           exact norm_ (by simp only [putAll, Act.put, sa_, s0_, s1_] <;> rfl) (hJ2 () _ ⟨hHeld, (pk BKz1), (pk BKz2), (by repeat first | (with_reducible first | exact HB.out | apply ba | apply bn | apply bd | refine bs (by assumption) ?_) | exact HB.out)⟩)
          skip
          refine box_step ?hg (N := 4) ?hd (cs := #[.slice none 0 0, .slice none 0 0]) (t := 30) ?hr ?_; (case hd => rfl); (case hg => rfl); (case hr => first | (go_simp; done) | (go_simp; rfl))
          intro gbz16 hg w13 hbox hb
          have n0_ := am (bkB (pk BKz1) hb)
          have n1_ := am (bkB (pk BKz2) hb)
          have n2_ := am (below_step (by repeat first | (with_reducible first | exact HB.out | apply ba | apply bn | apply bd | refine bs (by assumption) ?_) | exact HB.out) hb)
          have n3_ := am (hbox)
          have n4_ := ge_ hg (by repeat first | (with_reducible first | exact HB.out | apply ba | apply bn | apply bd | refine bs (by assumption) ?_) | exact HB.out)
          have n5_ := ge_ hg (by repeat first | (with_reducible first | exact HB.out | apply ba | apply bn | apply bd | refine bs (by assumption) ?_) | exact HB.out)
          have n6_ := nl_ hg BKz1
          have n7_ := ng_ hg BKz1
          have n8_ := nl_ hg BKz2
          have n9_ := ng_ hg BKz2
          clear BKz1 BKz2 HB; have BKz1 := n0_; have BKz2 := n1_; have HB := n2_; have BKz16 := n3_; have GWz16 := n4_; have GEz16 := n5_; have NBz1_z16 := n6_; have NBz16_z1 := n7_; have NBz2_z16 := n8_; have NBz16_z2 := n9_; clear n0_ n1_ n2_ n3_ n4_ n5_ n6_ n7_ n8_ n9_; clear hb hbox hg
          refine hK.out _ _ (bc2 BKz1) (fun hHeld => ?_)
          clear hK K
          refine norm_ (by show Act.put _ (some 4) _ = _; simp only [Act.put, sa_, s0_, s1_, i64_w, i32_w]; rfl) ?_
          exact norm_ (by simp only [putAll, Act.put, sa_, s0_, s1_] <;> rfl) (hJ12 (gbz16) _ ⟨hHeld, (pk BKz1), (pk BKz2), (pk BKz16), GWz16.out, GEz16.out, NBz1_z16.out, NBz16_z1.out, NBz2_z16.out, NBz16_z2.out, (by repeat first | (with_reducible first | exact HB.out | apply ba | apply bn | apply bd | refine bs (by assumption) ?_) | exact HB.out)⟩)
         ·skip
          rintro gbz16 w14 ⟨hS_, h0_, h1_, h2_, h3_, h4_, h5_, h6_, h7_, h8_, h9_⟩
          have n0_ : Aside0 (w14.heap[gbz1]? = some (.cells #[.slice A0_0 l0_0.length c0_0, .slice A0_1 l0_1.length c0_1] 30 (0, 0))) := ⟨h0_⟩
          have n1_ : Aside0 (w14.heap[gbz2]? = some (.cells #[.slice none 0 0, .slice none 0 0, .int .i64 0, .int .i64 0, .int .i64 0] 56 (0, 0))) := ⟨h1_⟩
          have n2_ : Aside0 (w14.heap[gbz16]? = some (.cells #[.slice none 0 0, .slice none 0 0] 30 (0, 0))) := ⟨h2_⟩
          have n3_ : Aside0 (w.heap.size ≤ gbz16) := ⟨h3_⟩
          have n4_ : Aside0 (w.heap.size ≤ gbz16) := ⟨h4_⟩
          have n5_ : Aside0 (gbz1 ≠ gbz16) := ⟨h5_⟩
          have n6_ : Aside0 (gbz16 ≠ gbz1) := ⟨h6_⟩
          have n7_ : Aside0 (gbz2 ≠ gbz16) := ⟨h7_⟩
          have n8_ : Aside0 (gbz16 ≠ gbz2) := ⟨h8_⟩
          have n9_ : Aside0 (Below w.heap.size w w14) := ⟨h9_⟩
          clear BKz1 BKz2 HB h0_ h1_ h2_ h3_ h4_ h5_ h6_ h7_ h8_ h9_; have BKz1 := n0_; have BKz2 := n1_; have BKz16 := n2_; have GWz16 := n3_; have GEz16 := n4_; have NBz1_z16 := n5_; have NBz16_z1 := n6_; have NBz2_z16 := n7_; have NBz16_z2 := n8_; have HB := n9_; clear n0_ n1_ n2_ n3_ n4_ n5_ n6_ n7_ n8_ n9_
          have hHeld : w14.cell? ⟨gbz1, 0, none⟩ = some (.slice A0_0 l0_0.length c0_0) ∧ w14.cell? ⟨gbz1, 1, none⟩ = some (.slice A0_1 l0_1.length c0_1) := hS_
          refine norm_ (by simp only [putAll, Act.put, List.setIfInBounds_toArray, List.set_cons_zero, List.set_cons_succ]; rfl) ?_
          refine on_ 2 (some 15) HT_ rfl rfl (fun K hK => ?_)
          refine goes_ Try.func56 (by kernel_rfl) rfl #[.agg #[.slice none 0 0, .slice none 0 0, .int .i64 0, .int .i64 0, .int .i64 0]] (by rfl) rfl rfl (by (try simp only [List.map_toArray, List.map_cons, List.map_nil]) <;> rfl) ?_
          refine (vault_book_head.calls k _ _ ([] : List ByteArray) _ _ ([] : List (S24)) 0 0 0 tz4 _ ?side1 ?side2 ?side3 ?side4 A4.out).mono ?_
          (case side1 => exact Kd.C_nil _ _)
          (case side2 => exact Nat.le_refl _)
          (case side3 => exact Kd.C_nil _ _)
          (case side4 => exact Nat.le_refl _)
          rintro e w15 ⟨rfl, hb⟩
          refine ⟨_, rfl, ?_⟩
          have n0_ := am (bkB (pk BKz1) hb)
          have n1_ := am (bkB (pk BKz2) hb)
          have n2_ := am (bkB (pk BKz16) hb)
          have n3_ := am (below_step (by repeat first | (with_reducible first | exact HB.out | apply ba | apply bn | apply bd | refine bs (by assumption) ?_) | exact HB.out) hb)
          clear BKz1 BKz2 BKz16 HB; have BKz1 := n0_; have BKz2 := n1_; have BKz16 := n2_; have HB := n3_; clear n0_ n1_ n2_ n3_; refine hK.out _ _ (bc2 BKz1) (fun hHeld => ?_)
          clear hK K
          refine norm_ (by show Act.put _ (some 15) _ = _; simp only [Act.put, sa_, s0_, s1_, i64_w, i32_w]; rfl) ?_
          refine pu_ 3 (some 16) HT_ rfl rfl (.inl ⟨by rfl, by intro w'; go_simp; with_reducible rfl⟩) (by simp only [Act.put, sa_, s0_, s1_, i64_w, i32_w]; rfl) ?_
          exact norm_ (by simp only [putAll, Act.put, sa_, s0_, s1_] <;> rfl) (hJ2_12 (gbz16) _ ⟨hHeld, (pk BKz1), (pk BKz2), (pk BKz16), GWz16.out, GEz16.out, NBz1_z16.out, NBz16_z1.out, NBz2_z16.out, NBz16_z2.out, (by repeat first | (with_reducible first | exact HB.out | apply ba | apply bn | apply bd | refine bs (by assumption) ?_) | exact HB.out)⟩)
        ·skip
         rintro _ w14 ⟨hS_, h0_, h1_, h2_⟩
         have n0_ : Aside0 (w14.heap[gbz1]? = some (.cells #[.slice A0_0 l0_0.length c0_0, .slice A0_1 l0_1.length c0_1] 30 (0, 0))) := ⟨h0_⟩
         have n1_ : Aside0 (w14.heap[gbz2]? = some (.cells #[.slice none 0 0, .slice none 0 0, .int .i64 0, .int .i64 0, .int .i64 0] 56 (0, 0))) := ⟨h1_⟩
         have n2_ : Aside0 (Below w.heap.size w w14) := ⟨h2_⟩
         clear BKz1 BKz2 HB h0_ h1_ h2_; have BKz1 := n0_; have BKz2 := n1_; have HB := n2_; clear n0_ n1_ n2_
         have hHeld : w14.cell? ⟨gbz1, 0, none⟩ = some (.slice A0_0 l0_0.length c0_0) ∧ w14.cell? ⟨gbz1, 1, none⟩ = some (.slice A0_1 l0_1.length c0_1) := hS_
         refine norm_ (by simp only [putAll, Act.put, List.setIfInBounds_toArray, List.set_cons_zero, List.set_cons_succ]; rfl) ?_
         refine two_ (i := 4) (j := 12) (Ni := some 17) (Nj := some 4) #[true, true, true, true, true, false, true, false, false, false, false, false, false, false, false] #[true, true, true, true, false, false, true, false, false, false, false, false, true, false, false] rfl rfl rfl rfl (two_of HT_.out (by kernel_rfl)) (by decide) (by decide) (fun K hK => ?_) (fun K hK => ?_)
         ·skip
          refine goes_ Try.func57 (by kernel_rfl) rfl #[] (by rfl) rfl rfl (by (try simp only [List.map_toArray, List.map_cons, List.map_nil]) <;> rfl) ?_
          with_reducible refine (vault_blank.calls  tz5 _ A5.out).mono ?_
          rintro e w15 ⟨rfl, hb⟩
          refine ⟨_, rfl, ?_⟩
          have n0_ := am (bkB (pk BKz1) hb)
          have n1_ := am (bkB (pk BKz2) hb)
          have n2_ := am (below_step (by repeat first | (with_reducible first | exact HB.out | apply ba | apply bn | apply bd | refine bs (by assumption) ?_) | exact HB.out) hb)
          clear BKz1 BKz2 HB; have BKz1 := n0_; have BKz2 := n1_; have HB := n2_; clear n0_ n1_ n2_; refine hK.out _ _ (bc2 BKz1) (fun hHeld => ?_)
          clear hK K
          refine norm_ (by show Act.put _ (some 17) _ = _; simp only [Act.put, sa_, s0_, s1_, i64_w, i32_w]; rfl) ?_
          refine pu_ 5 (some 18) HT_ rfl rfl (.inl ⟨by rfl, by intro w'; go_simp; with_reducible rfl⟩) (by simp only [Act.put, sa_, s0_, s1_, i64_w, i32_w]; rfl) ?_
          exact norm_ (by simp only [putAll, Act.put, sa_, s0_, s1_] <;> rfl) (hJ2_4 () _ ⟨hHeld, (pk BKz1), (pk BKz2), (by repeat first | (with_reducible first | exact HB.out | apply ba | apply bn | apply bd | refine bs (by assumption) ?_) | exact HB.out)⟩)
         skip
         refine box_step ?hg (N := 4) ?hd (cs := #[.slice none 0 0, .slice none 0 0]) (t := 30) ?hr ?_; (case hd => rfl); (case hg => rfl); (case hr => first | (go_simp; done) | (go_simp; rfl))
         intro gbz16 hg w15 hbox hb
         have n0_ := am (bkB (pk BKz1) hb)
         have n1_ := am (bkB (pk BKz2) hb)
         have n2_ := am (below_step (by repeat first | (with_reducible first | exact HB.out | apply ba | apply bn | apply bd | refine bs (by assumption) ?_) | exact HB.out) hb)
         have n3_ := am (hbox)
         have n4_ := ge_ hg (by repeat first | (with_reducible first | exact HB.out | apply ba | apply bn | apply bd | refine bs (by assumption) ?_) | exact HB.out)
         have n5_ := ge_ hg (by repeat first | (with_reducible first | exact HB.out | apply ba | apply bn | apply bd | refine bs (by assumption) ?_) | exact HB.out)
         have n6_ := nl_ hg BKz1
         have n7_ := ng_ hg BKz1
         have n8_ := nl_ hg BKz2
         have n9_ := ng_ hg BKz2
         clear BKz1 BKz2 HB; have BKz1 := n0_; have BKz2 := n1_; have HB := n2_; have BKz16 := n3_; have GWz16 := n4_; have GEz16 := n5_; have NBz1_z16 := n6_; have NBz16_z1 := n7_; have NBz2_z16 := n8_; have NBz16_z2 := n9_; clear n0_ n1_ n2_ n3_ n4_ n5_ n6_ n7_ n8_ n9_; clear hb hbox hg
         refine hK.out _ _ (bc2 BKz1) (fun hHeld => ?_)
         clear hK K
         refine norm_ (by show Act.put _ (some 4) _ = _; simp only [Act.put, sa_, s0_, s1_, i64_w, i32_w]; rfl) ?_
         exact norm_ (by simp only [putAll, Act.put, sa_, s0_, s1_] <;> rfl) (hJ2_12 (gbz16) _ ⟨hHeld, (pk BKz1), (pk BKz2), (pk BKz16), GWz16.out, GEz16.out, NBz1_z16.out, NBz16_z1.out, NBz2_z16.out, NBz16_z2.out, (by repeat first | (with_reducible first | exact HB.out | apply ba | apply bn | apply bd | refine bs (by assumption) ?_) | exact HB.out)⟩)
       ·skip
        rintro gbz16 w15 ⟨hS_, h0_, h1_, h2_, h3_, h4_, h5_, h6_, h7_, h8_, h9_⟩
        have n0_ : Aside0 (w15.heap[gbz1]? = some (.cells #[.slice A0_0 l0_0.length c0_0, .slice A0_1 l0_1.length c0_1] 30 (0, 0))) := ⟨h0_⟩
        have n1_ : Aside0 (w15.heap[gbz2]? = some (.cells #[.slice none 0 0, .slice none 0 0, .int .i64 0, .int .i64 0, .int .i64 0] 56 (0, 0))) := ⟨h1_⟩
        have n2_ : Aside0 (w15.heap[gbz16]? = some (.cells #[.slice none 0 0, .slice none 0 0] 30 (0, 0))) := ⟨h2_⟩
        have n3_ : Aside0 (w.heap.size ≤ gbz16) := ⟨h3_⟩
        have n4_ : Aside0 (w.heap.size ≤ gbz16) := ⟨h4_⟩
        have n5_ : Aside0 (gbz1 ≠ gbz16) := ⟨h5_⟩
        have n6_ : Aside0 (gbz16 ≠ gbz1) := ⟨h6_⟩
        have n7_ : Aside0 (gbz2 ≠ gbz16) := ⟨h7_⟩
        have n8_ : Aside0 (gbz16 ≠ gbz2) := ⟨h8_⟩
        have n9_ : Aside0 (Below w.heap.size w w15) := ⟨h9_⟩
        clear BKz1 BKz2 HB h0_ h1_ h2_ h3_ h4_ h5_ h6_ h7_ h8_ h9_; have BKz1 := n0_; have BKz2 := n1_; have BKz16 := n2_; have GWz16 := n3_; have GEz16 := n4_; have NBz1_z16 := n5_; have NBz16_z1 := n6_; have NBz2_z16 := n7_; have NBz16_z2 := n8_; have HB := n9_; clear n0_ n1_ n2_ n3_ n4_ n5_ n6_ n7_ n8_ n9_
        have hHeld : w15.cell? ⟨gbz1, 0, none⟩ = some (.slice A0_0 l0_0.length c0_0) ∧ w15.cell? ⟨gbz1, 1, none⟩ = some (.slice A0_1 l0_1.length c0_1) := hS_
        refine norm_ (by simp only [putAll, Act.put, List.setIfInBounds_toArray, List.set_cons_zero, List.set_cons_succ]; rfl) ?_
        refine on_ 4 (some 17) HT_ rfl rfl (fun K hK => ?_)
        refine goes_ Try.func57 (by kernel_rfl) rfl #[] (by rfl) rfl rfl (by (try simp only [List.map_toArray, List.map_cons, List.map_nil]) <;> rfl) ?_
        with_reducible refine (vault_blank.calls  tz5 _ A5.out).mono ?_
        rintro e w16 ⟨rfl, hb⟩
        refine ⟨_, rfl, ?_⟩
        have n0_ := am (bkB (pk BKz1) hb)
        have n1_ := am (bkB (pk BKz2) hb)
        have n2_ := am (bkB (pk BKz16) hb)
        have n3_ := am (below_step (by repeat first | (with_reducible first | exact HB.out | apply ba | apply bn | apply bd | refine bs (by assumption) ?_) | exact HB.out) hb)
        clear BKz1 BKz2 BKz16 HB; have BKz1 := n0_; have BKz2 := n1_; have BKz16 := n2_; have HB := n3_; clear n0_ n1_ n2_ n3_; refine hK.out _ _ (bc2 BKz1) (fun hHeld => ?_)
        clear hK K
        refine norm_ (by show Act.put _ (some 17) _ = _; simp only [Act.put, sa_, s0_, s1_, i64_w, i32_w]; rfl) ?_
        refine pu_ 5 (some 18) HT_ rfl rfl (.inl ⟨by rfl, by intro w'; go_simp; with_reducible rfl⟩) (by simp only [Act.put, sa_, s0_, s1_, i64_w, i32_w]; rfl) ?_
        exact norm_ (by simp only [putAll, Act.put, sa_, s0_, s1_] <;> rfl) (hJ2_4_12 (gbz16) _ ⟨hHeld, (pk BKz1), (pk BKz2), (pk BKz16), GWz16.out, GEz16.out, NBz1_z16.out, NBz16_z1.out, NBz2_z16.out, NBz16_z2.out, (by repeat first | (with_reducible first | exact HB.out | apply ba | apply bn | apply bd | refine bs (by assumption) ?_) | exact HB.out)⟩)
      ·skip
       rintro _ w15 ⟨hS_, h0_, h1_, h2_⟩
       have n0_ : Aside0 (w15.heap[gbz1]? = some (.cells #[.slice A0_0 l0_0.length c0_0, .slice A0_1 l0_1.length c0_1] 30 (0, 0))) := ⟨h0_⟩
       have n1_ : Aside0 (w15.heap[gbz2]? = some (.cells #[.slice none 0 0, .slice none 0 0, .int .i64 0, .int .i64 0, .int .i64 0] 56 (0, 0))) := ⟨h1_⟩
       have n2_ : Aside0 (Below w.heap.size w w15) := ⟨h2_⟩
       clear BKz1 BKz2 HB h0_ h1_ h2_; have BKz1 := n0_; have BKz2 := n1_; have HB := n2_; clear n0_ n1_ n2_
       have hHeld : w15.cell? ⟨gbz1, 0, none⟩ = some (.slice A0_0 l0_0.length c0_0) ∧ w15.cell? ⟨gbz1, 1, none⟩ = some (.slice A0_1 l0_1.length c0_1) := hS_
       refine norm_ (by simp only [putAll, Act.put, List.setIfInBounds_toArray, List.set_cons_zero, List.set_cons_succ]; rfl) ?_
       refine two_ (i := 7) (j := 12) (Ni := some 20) (Nj := some 4) #[true, true, true, true, true, true, true, true, false, false, false, false, false, false, false] #[true, true, true, true, true, true, true, false, false, false, false, false, true, false, false] rfl rfl rfl rfl (two_of HT_.out (by kernel_rfl)) (by decide) (by decide) (fun K hK => ?_) (fun K hK => ?_)
       ·skip
        refine Kd.R_lit_step k24 _ 24 ?hg (N := 20) ?hd (xs := ([(⟨false, 0, tz4⟩ : S24), (⟨false, 1, tz5⟩ : S24), (⟨true, 0, (⟨#[]⟩ : ByteArray)⟩ : S24)] : List (S24))) (inner := [.bool false, .int .i64 0, .string tz4, .bool false, .int .i64 1, .string tz5, .bool true, .int .i64 0, .string (⟨#[]⟩ : ByteArray)]) (ok := fun _ => True) (okp := fun _ => True) ?hr ?hp (fun _ hk => hk) trivial (Below.refl _ _) (Nat.le_refl _) (by simp) ?_; (case hd => rfl); (case hg => rfl); (case hr => first | (go_simp; done) | (go_simp; rfl)); (case hp => exact (Reps.c3 (show Kd.M k24 _ _ _ (⟨false, 0, tz4⟩ : S24) [.bool false, .int .i64 0, .string tz4] from (k24_mkM _ _ _ (⟨false, 0, tz4⟩ : S24) )) (Reps.c3 (show Kd.M k24 _ _ _ (⟨false, 1, tz5⟩ : S24) [.bool false, .int .i64 1, .string tz5] from (k24_mkM _ _ _ (⟨false, 1, tz5⟩ : S24) )) (Reps.c3 (show Kd.M k24 _ _ _ (⟨true, 0, (⟨#[]⟩ : ByteArray)⟩ : S24) [.bool true, .int .i64 0, .string (⟨#[]⟩ : ByteArray)] from (k24_mkM _ _ _ (⟨true, 0, (⟨#[]⟩ : ByteArray)⟩ : S24) )) (Reps.none _ _)))))
        intro vz7 w16 ho17 hb hg_ hnew_
        clear hg_ hnew_
        (first | rw [← Nyz6.out] at ho17 | (simp only [Int.reduceToNat] at ho17; rw [← Nyz6.out] at ho17))
        have n0_ := am (Kd.R_lower ho17 (below_size (by repeat first | (with_reducible first | exact HB.out | apply ba | apply bn | apply bd | refine bs (by assumption) ?_) | exact HB.out)))
        have n1_ := am (bkB (pk BKz1) hb)
        have n2_ := am (bkB (pk BKz2) hb)
        have n3_ := am (below_step (by repeat first | (with_reducible first | exact HB.out | apply ba | apply bn | apply bd | refine bs (by assumption) ?_) | exact HB.out) hb)
        clear BKz1 BKz2 HB; have HOz8 := n0_; have BKz1 := n1_; have BKz2 := n2_; have HB := n3_; clear n0_ n1_ n2_ n3_; clear hb ho17
        refine hK.out _ _ (bc2 BKz1) (fun hHeld => ?_)
        clear hK K
        refine norm_ (by show Act.put _ (some 20) _ = _; simp only [Act.put, sa_, s0_, s1_, i64_w, i32_w]; rfl) ?_
        exact norm_ (by simp only [putAll, Act.put, sa_, s0_, s1_] <;> rfl) (hJ2_4_7 (vz7) _ ⟨hHeld, (pr HOz8), (pk BKz1), (pk BKz2), (by repeat first | (with_reducible first | exact HB.out | apply ba | apply bn | apply bd | refine bs (by assumption) ?_) | exact HB.out)⟩)
       skip
       refine box_step ?hg (N := 4) ?hd (cs := #[.slice none 0 0, .slice none 0 0]) (t := 30) ?hr ?_; (case hd => rfl); (case hg => rfl); (case hr => first | (go_simp; done) | (go_simp; rfl))
       intro gbz16 hg w16 hbox hb
       have n0_ := am (bkB (pk BKz1) hb)
       have n1_ := am (bkB (pk BKz2) hb)
       have n2_ := am (below_step (by repeat first | (with_reducible first | exact HB.out | apply ba | apply bn | apply bd | refine bs (by assumption) ?_) | exact HB.out) hb)
       have n3_ := am (hbox)
       have n4_ := ge_ hg (by repeat first | (with_reducible first | exact HB.out | apply ba | apply bn | apply bd | refine bs (by assumption) ?_) | exact HB.out)
       have n5_ := ge_ hg (by repeat first | (with_reducible first | exact HB.out | apply ba | apply bn | apply bd | refine bs (by assumption) ?_) | exact HB.out)
       have n6_ := nl_ hg BKz1
       have n7_ := ng_ hg BKz1
       have n8_ := nl_ hg BKz2
       have n9_ := ng_ hg BKz2
       clear BKz1 BKz2 HB; have BKz1 := n0_; have BKz2 := n1_; have HB := n2_; have BKz16 := n3_; have GWz16 := n4_; have GEz16 := n5_; have NBz1_z16 := n6_; have NBz16_z1 := n7_; have NBz2_z16 := n8_; have NBz16_z2 := n9_; clear n0_ n1_ n2_ n3_ n4_ n5_ n6_ n7_ n8_ n9_; clear hb hbox hg
       refine hK.out _ _ (bc2 BKz1) (fun hHeld => ?_)
       clear hK K
       refine norm_ (by show Act.put _ (some 4) _ = _; simp only [Act.put, sa_, s0_, s1_, i64_w, i32_w]; rfl) ?_
       exact norm_ (by simp only [putAll, Act.put, sa_, s0_, s1_] <;> rfl) (hJ2_4_12 (gbz16) _ ⟨hHeld, (pk BKz1), (pk BKz2), (pk BKz16), GWz16.out, GEz16.out, NBz1_z16.out, NBz16_z1.out, NBz2_z16.out, NBz16_z2.out, (by repeat first | (with_reducible first | exact HB.out | apply ba | apply bn | apply bd | refine bs (by assumption) ?_) | exact HB.out)⟩)
     ·skip
      rintro gbz16 w16 ⟨hS_, h0_, h1_, h2_, h3_, h4_, h5_, h6_, h7_, h8_, h9_⟩
      have n0_ : Aside0 (w16.heap[gbz1]? = some (.cells #[.slice A0_0 l0_0.length c0_0, .slice A0_1 l0_1.length c0_1] 30 (0, 0))) := ⟨h0_⟩
      have n1_ : Aside0 (w16.heap[gbz2]? = some (.cells #[.slice none 0 0, .slice none 0 0, .int .i64 0, .int .i64 0, .int .i64 0] 56 (0, 0))) := ⟨h1_⟩
      have n2_ : Aside0 (w16.heap[gbz16]? = some (.cells #[.slice none 0 0, .slice none 0 0] 30 (0, 0))) := ⟨h2_⟩
      have n3_ : Aside0 (w.heap.size ≤ gbz16) := ⟨h3_⟩
      have n4_ : Aside0 (w.heap.size ≤ gbz16) := ⟨h4_⟩
      have n5_ : Aside0 (gbz1 ≠ gbz16) := ⟨h5_⟩
      have n6_ : Aside0 (gbz16 ≠ gbz1) := ⟨h6_⟩
      have n7_ : Aside0 (gbz2 ≠ gbz16) := ⟨h7_⟩
      have n8_ : Aside0 (gbz16 ≠ gbz2) := ⟨h8_⟩
      have n9_ : Aside0 (Below w.heap.size w w16) := ⟨h9_⟩
      clear BKz1 BKz2 HB h0_ h1_ h2_ h3_ h4_ h5_ h6_ h7_ h8_ h9_; have BKz1 := n0_; have BKz2 := n1_; have BKz16 := n2_; have GWz16 := n3_; have GEz16 := n4_; have NBz1_z16 := n5_; have NBz16_z1 := n6_; have NBz2_z16 := n7_; have NBz16_z2 := n8_; have HB := n9_; clear n0_ n1_ n2_ n3_ n4_ n5_ n6_ n7_ n8_ n9_
      have hHeld : w16.cell? ⟨gbz1, 0, none⟩ = some (.slice A0_0 l0_0.length c0_0) ∧ w16.cell? ⟨gbz1, 1, none⟩ = some (.slice A0_1 l0_1.length c0_1) := hS_
      refine norm_ (by simp only [putAll, Act.put, List.setIfInBounds_toArray, List.set_cons_zero, List.set_cons_succ]; rfl) ?_
      refine on_ 7 (some 20) HT_ rfl rfl (fun K hK => ?_)
      refine Kd.R_lit_step k24 _ 24 ?hg (N := 20) ?hd (xs := ([(⟨false, 0, tz4⟩ : S24), (⟨false, 1, tz5⟩ : S24), (⟨true, 0, (⟨#[]⟩ : ByteArray)⟩ : S24)] : List (S24))) (inner := [.bool false, .int .i64 0, .string tz4, .bool false, .int .i64 1, .string tz5, .bool true, .int .i64 0, .string (⟨#[]⟩ : ByteArray)]) (ok := fun _ => True) (okp := fun _ => True) ?hr ?hp (fun _ hk => hk) trivial (Below.refl _ _) (Nat.le_refl _) (by simp) ?_; (case hd => rfl); (case hg => rfl); (case hr => first | (go_simp; done) | (go_simp; rfl)); (case hp => exact (Reps.c3 (show Kd.M k24 _ _ _ (⟨false, 0, tz4⟩ : S24) [.bool false, .int .i64 0, .string tz4] from (k24_mkM _ _ _ (⟨false, 0, tz4⟩ : S24) )) (Reps.c3 (show Kd.M k24 _ _ _ (⟨false, 1, tz5⟩ : S24) [.bool false, .int .i64 1, .string tz5] from (k24_mkM _ _ _ (⟨false, 1, tz5⟩ : S24) )) (Reps.c3 (show Kd.M k24 _ _ _ (⟨true, 0, (⟨#[]⟩ : ByteArray)⟩ : S24) [.bool true, .int .i64 0, .string (⟨#[]⟩ : ByteArray)] from (k24_mkM _ _ _ (⟨true, 0, (⟨#[]⟩ : ByteArray)⟩ : S24) )) (Reps.none _ _)))))
      intro vz7 w17 ho18 hb hg_ hnew_
      clear hg_ hnew_
      (first | rw [← Nyz6.out] at ho18 | (simp only [Int.reduceToNat] at ho18; rw [← Nyz6.out] at ho18))
      have n0_ := am (Kd.R_lower ho18 (below_size (by repeat first | (with_reducible first | exact HB.out | apply ba | apply bn | apply bd | refine bs (by assumption) ?_) | exact HB.out)))
      have n1_ := am (bkB (pk BKz1) hb)
      have n2_ := am (bkB (pk BKz2) hb)
      have n3_ := am (bkB (pk BKz16) hb)
      have n4_ := am (below_step (by repeat first | (with_reducible first | exact HB.out | apply ba | apply bn | apply bd | refine bs (by assumption) ?_) | exact HB.out) hb)
      clear BKz1 BKz2 BKz16 HB; have HOz8 := n0_; have BKz1 := n1_; have BKz2 := n2_; have BKz16 := n3_; have HB := n4_; clear n0_ n1_ n2_ n3_ n4_; clear hb ho18
      refine hK.out _ _ (bc2 BKz1) (fun hHeld => ?_)
      clear hK K
      refine norm_ (by show Act.put _ (some 20) _ = _; simp only [Act.put, sa_, s0_, s1_, i64_w, i32_w]; rfl) ?_
      exact norm_ (by simp only [putAll, Act.put, sa_, s0_, s1_] <;> rfl) (hJ2_4_7_12 (vz7, gbz16) _ ⟨hHeld, (pr HOz8), (pk BKz1), (pk BKz2), (pk BKz16), GWz16.out, GEz16.out, NBz1_z16.out, NBz16_z1.out, NBz2_z16.out, NBz16_z2.out, (by repeat first | (with_reducible first | exact HB.out | apply ba | apply bn | apply bd | refine bs (by assumption) ?_) | exact HB.out)⟩)
    ·skip
     rintro vz7 w17 ⟨hS_, h0_, h1_, h2_, h3_⟩
     have n0_ : Aside0 (Kd.R k24 24 w17 w.heap.size (fun _ => True) vz7 yz6) := ⟨h0_⟩
     have n1_ : Aside0 (w17.heap[gbz1]? = some (.cells #[.slice A0_0 l0_0.length c0_0, .slice A0_1 l0_1.length c0_1] 30 (0, 0))) := ⟨h1_⟩
     have n2_ : Aside0 (w17.heap[gbz2]? = some (.cells #[.slice none 0 0, .slice none 0 0, .int .i64 0, .int .i64 0, .int .i64 0] 56 (0, 0))) := ⟨h2_⟩
     have n3_ : Aside0 (Below w.heap.size w w17) := ⟨h3_⟩
     clear BKz1 BKz2 HB h0_ h1_ h2_ h3_; have HOz8 := n0_; have BKz1 := n1_; have BKz2 := n2_; have HB := n3_; clear n0_ n1_ n2_ n3_
     have hHeld : w17.cell? ⟨gbz1, 0, none⟩ = some (.slice A0_0 l0_0.length c0_0) ∧ w17.cell? ⟨gbz1, 1, none⟩ = some (.slice A0_1 l0_1.length c0_1) := hS_
     obtain ⟨Ao18, co18, eo18⟩ := Kd.R_slice HOz8.out
     (first | subst eo18 | (injection eo18 with f1_ f2_ f3_; have f4_ := f1_.symm; have f5_ := f3_.symm; clear f1_ f2_ f3_; subst f4_; subst f5_))
     refine norm_ (by simp only [putAll, Act.put, List.setIfInBounds_toArray, List.set_cons_zero, List.set_cons_succ]; rfl) ?_
     refine two_ (i := 8) (j := 12) (Ni := some 21) (Nj := some 4) #[true, true, true, true, true, true, true, true, true, false, false, false, false, false, false] #[true, true, true, true, true, true, true, true, false, false, false, false, true, false, false] rfl rfl rfl rfl (two_of HT_.out (by kernel_rfl)) (by decide) (by decide) (fun K hK => ?_) (fun K hK => ?_)
     rotate_left
     ·skip
      refine box_step ?hg (N := 4) ?hd (cs := #[.slice none 0 0, .slice none 0 0]) (t := 30) ?hr ?_; (case hd => rfl); (case hg => rfl); (case hr => first | (go_simp; done) | (go_simp; rfl))
      intro gbz16 hg w18 hbox hb
      have n0_ := am (Kd.R_below (pr HOz8) hb)
      have n1_ := am (bkB (pk BKz1) hb)
      have n2_ := am (bkB (pk BKz2) hb)
      have n3_ := am (below_step (by repeat first | (with_reducible first | exact HB.out | apply ba | apply bn | apply bd | refine bs (by assumption) ?_) | exact HB.out) hb)
      have n4_ := am (hbox)
      have n5_ := ge_ hg (by repeat first | (with_reducible first | exact HB.out | apply ba | apply bn | apply bd | refine bs (by assumption) ?_) | exact HB.out)
      have n6_ := ge_ hg (by repeat first | (with_reducible first | exact HB.out | apply ba | apply bn | apply bd | refine bs (by assumption) ?_) | exact HB.out)
      have n7_ := nl_ hg BKz1
      have n8_ := ng_ hg BKz1
      have n9_ := nl_ hg BKz2
      have n10_ := ng_ hg BKz2
      clear HOz8 BKz1 BKz2 HB; have HOz8 := n0_; have BKz1 := n1_; have BKz2 := n2_; have HB := n3_; have BKz16 := n4_; have GWz16 := n5_; have GEz16 := n6_; have NBz1_z16 := n7_; have NBz16_z1 := n8_; have NBz2_z16 := n9_; have NBz16_z2 := n10_; clear n0_ n1_ n2_ n3_ n4_ n5_ n6_ n7_ n8_ n9_ n10_; clear hb hbox hg
      refine hK.out _ _ (bc2 BKz1) (fun hHeld => ?_)
      clear hK K
      refine norm_ (by show Act.put _ (some 4) _ = _; simp only [Act.put, sa_, s0_, s1_, i64_w, i32_w]; rfl) ?_
      exact norm_ (by simp only [putAll, Act.put, sa_, s0_, s1_] <;> rfl) (hJ2_4_7_12 ((.slice Ao18 yz6.length co18), gbz16) _ ⟨hHeld, (pr HOz8), (pk BKz1), (pk BKz2), (pk BKz16), GWz16.out, GEz16.out, NBz1_z16.out, NBz16_z1.out, NBz2_z16.out, NBz16_z2.out, (by repeat first | (with_reducible first | exact HB.out | apply ba | apply bn | apply bd | refine bs (by assumption) ?_) | exact HB.out)⟩)
     skip
     refine goes_ Try.func25 (by kernel_rfl) rfl #[.agg #[.slice A0_0 l0_0.length c0_0, .slice A0_1 l0_1.length c0_1], .slice Ao18 yz6.length co18] (by rfl) rfl rfl (by (try simp only [List.map_toArray, List.map_cons, List.map_nil]) <;> rfl) ?_
     with_reducible refine (disk_Do.calls _ _ l0_0 _ _ l0_1 _ _ yz6 tz9 tz12 tz15 _ ?side1 ?side2 ?side3 ?side4 ?side5 ?side6 A6.out).mono ?_
     (case side1 => repeat (first | exact (Kd.C_below HR0_0.out HB.out) | (with_reducible refine Kd.C_alloc ?_ _) | (with_reducible refine Kd.C_drewN ?_ _) | (with_reducible refine Kd.C_drew ?_)))
     (case side2 => exact HC0_0.out)
     (case side3 => repeat (first | exact (Kd.C_below HR0_1.out HB.out) | (with_reducible refine Kd.C_alloc ?_ _) | (with_reducible refine Kd.C_drewN ?_ _) | (with_reducible refine Kd.C_drew ?_)))
     (case side4 => exact HC0_1.out)
     (case side5 => repeat (first | exact (Kd.R_reads' HOz8.out).2.2 | (with_reducible refine Kd.C_alloc ?_ _) | (with_reducible refine Kd.C_drewN ?_ _) | (with_reducible refine Kd.C_drew ?_)))
     (case side6 => exact (Kd.R_reads' HOz8.out).2.1)
     rintro e w19 ⟨vz10, vz13, rfl, ho0, ho1, hb⟩
     refine ⟨_, rfl, ?_⟩
     have n0_ := am (Kd.R_elder' (pr HOz8) (Kd.R_base ho1) hb)
     have n1_ := am (Kd.R_lower ho0 (below_size (by repeat first | (with_reducible first | exact HB.out | apply ba | apply bn | apply bd | refine bs (by assumption) ?_) | exact HB.out)))
     have n2_ := am (Kd.R_lower (Kd.R_new' ho1 (Kd.R_lt (pr HOz8))) (below_size (by repeat first | (with_reducible first | exact HB.out | apply ba | apply bn | apply bd | refine bs (by assumption) ?_) | exact HB.out)))
     have n3_ := am (bkB (pk BKz1) hb)
     have n4_ := am (bkB (pk BKz2) hb)
     have n5_ := am (below_step (by repeat first | (with_reducible first | exact HB.out | apply ba | apply bn | apply bd | refine bs (by assumption) ?_) | exact HB.out) hb)
     clear HOz8 BKz1 BKz2 HB; have HOz8 := n0_; have HOz11 := n1_; have HOz14 := n2_; have BKz1 := n3_; have BKz2 := n4_; have HB := n5_; clear n0_ n1_ n2_ n3_ n4_ n5_; refine hK.out _ _ (bc2 BKz1) (fun hHeld => ?_)
     clear hK K
     refine norm_ (by show Act.put _ (some 21) _ = _; simp only [Act.put, sa_, s0_, s1_, i64_w, i32_w]; rfl) ?_
     refine pu_ 9 (some 12) HT_ rfl rfl (.inl ⟨by rfl, by intro w'; go_simp; with_reducible rfl⟩) (by simp only [Act.put, sa_, s0_, s1_, i64_w, i32_w]; rfl) ?_
     refine pu_ 10 (some 22) HT_ rfl rfl (.inl ⟨by rfl, by intro w'; go_simp; with_reducible rfl⟩) (by simp only [Act.put, sa_, s0_, s1_, i64_w, i32_w]; rfl) ?_
     refine pu_ 11 (some 23) HT_ rfl rfl (.inl ⟨by rfl, by intro w'; go_simp; with_reducible rfl⟩) (by simp only [Act.put, sa_, s0_, s1_, i64_w, i32_w]; rfl) ?_
     exact norm_ (by simp only [putAll, Act.put, sa_, s0_, s1_] <;> rfl) (hJ2_4_7_8 (.slice Ao18 yz6.length co18, vz10, vz13) _ ⟨hHeld, (pm HOz8 (fun _ hk => hk.2)), (pr HOz11), (pm HOz14 (fun _ hk => hk.2)), (pk BKz1), (pk BKz2), (by repeat first | (with_reducible first | exact HB.out | apply ba | apply bn | apply bd | refine bs (by assumption) ?_) | exact HB.out)⟩)
   ·skip
    rintro ⟨vz7, gbz16⟩ w18 ⟨hS_, h0_, h1_, h2_, h3_, h4_, h5_, h6_, h7_, h8_, h9_, h10_⟩
    have n0_ : Aside0 (Kd.R k24 24 w18 w.heap.size (fun _ => True) vz7 yz6) := ⟨h0_⟩
    have n1_ : Aside0 (w18.heap[gbz1]? = some (.cells #[.slice A0_0 l0_0.length c0_0, .slice A0_1 l0_1.length c0_1] 30 (0, 0))) := ⟨h1_⟩
    have n2_ : Aside0 (w18.heap[gbz2]? = some (.cells #[.slice none 0 0, .slice none 0 0, .int .i64 0, .int .i64 0, .int .i64 0] 56 (0, 0))) := ⟨h2_⟩
    have n3_ : Aside0 (w18.heap[gbz16]? = some (.cells #[.slice none 0 0, .slice none 0 0] 30 (0, 0))) := ⟨h3_⟩
    have n4_ : Aside0 (w.heap.size ≤ gbz16) := ⟨h4_⟩
    have n5_ : Aside0 (w.heap.size ≤ gbz16) := ⟨h5_⟩
    have n6_ : Aside0 (gbz1 ≠ gbz16) := ⟨h6_⟩
    have n7_ : Aside0 (gbz16 ≠ gbz1) := ⟨h7_⟩
    have n8_ : Aside0 (gbz2 ≠ gbz16) := ⟨h8_⟩
    have n9_ : Aside0 (gbz16 ≠ gbz2) := ⟨h9_⟩
    have n10_ : Aside0 (Below w.heap.size w w18) := ⟨h10_⟩
    clear BKz1 BKz2 HB h0_ h1_ h2_ h3_ h4_ h5_ h6_ h7_ h8_ h9_ h10_; have HOz8 := n0_; have BKz1 := n1_; have BKz2 := n2_; have BKz16 := n3_; have GWz16 := n4_; have GEz16 := n5_; have NBz1_z16 := n6_; have NBz16_z1 := n7_; have NBz2_z16 := n8_; have NBz16_z2 := n9_; have HB := n10_; clear n0_ n1_ n2_ n3_ n4_ n5_ n6_ n7_ n8_ n9_ n10_
    have hHeld : w18.cell? ⟨gbz1, 0, none⟩ = some (.slice A0_0 l0_0.length c0_0) ∧ w18.cell? ⟨gbz1, 1, none⟩ = some (.slice A0_1 l0_1.length c0_1) := hS_
    obtain ⟨Ao19, co19, eo19⟩ := Kd.R_slice HOz8.out
    (first | subst eo19 | (injection eo19 with f1_ f2_ f3_; have f4_ := f1_.symm; have f5_ := f3_.symm; clear f1_ f2_ f3_; subst f4_; subst f5_))
    refine norm_ (by simp only [putAll, Act.put, List.setIfInBounds_toArray, List.set_cons_zero, List.set_cons_succ]; rfl) ?_
    refine on_ 8 (some 21) HT_ rfl rfl (fun K hK => ?_)
    refine goes_ Try.func25 (by kernel_rfl) rfl #[.agg #[.slice A0_0 l0_0.length c0_0, .slice A0_1 l0_1.length c0_1], .slice Ao19 yz6.length co19] (by rfl) rfl rfl (by (try simp only [List.map_toArray, List.map_cons, List.map_nil]) <;> rfl) ?_
    with_reducible refine (disk_Do.calls _ _ l0_0 _ _ l0_1 _ _ yz6 tz9 tz12 tz15 _ ?side1 ?side2 ?side3 ?side4 ?side5 ?side6 A6.out).mono ?_
    (case side1 => repeat (first | exact (Kd.C_below HR0_0.out HB.out) | (with_reducible refine Kd.C_alloc ?_ _) | (with_reducible refine Kd.C_drewN ?_ _) | (with_reducible refine Kd.C_drew ?_)))
    (case side2 => exact HC0_0.out)
    (case side3 => repeat (first | exact (Kd.C_below HR0_1.out HB.out) | (with_reducible refine Kd.C_alloc ?_ _) | (with_reducible refine Kd.C_drewN ?_ _) | (with_reducible refine Kd.C_drew ?_)))
    (case side4 => exact HC0_1.out)
    (case side5 => repeat (first | exact (Kd.R_reads' HOz8.out).2.2 | (with_reducible refine Kd.C_alloc ?_ _) | (with_reducible refine Kd.C_drewN ?_ _) | (with_reducible refine Kd.C_drew ?_)))
    (case side6 => exact (Kd.R_reads' HOz8.out).2.1)
    rintro e w20 ⟨vz10, vz13, rfl, ho0, ho1, hb⟩
    refine ⟨_, rfl, ?_⟩
    have n0_ := am (Kd.R_elder' (pr HOz8) (Kd.R_base ho1) hb)
    have n1_ := am (Kd.R_lower ho0 (below_size (by repeat first | (with_reducible first | exact HB.out | apply ba | apply bn | apply bd | refine bs (by assumption) ?_) | exact HB.out)))
    have n2_ := am (Kd.R_lower (Kd.R_new' ho1 (Kd.R_lt (pr HOz8))) (below_size (by repeat first | (with_reducible first | exact HB.out | apply ba | apply bn | apply bd | refine bs (by assumption) ?_) | exact HB.out)))
    have n3_ := am (bkB (pk BKz1) hb)
    have n4_ := am (bkB (pk BKz2) hb)
    have n5_ := am (bkB (pk BKz16) hb)
    have n6_ := am (below_step (by repeat first | (with_reducible first | exact HB.out | apply ba | apply bn | apply bd | refine bs (by assumption) ?_) | exact HB.out) hb)
    clear HOz8 BKz1 BKz2 BKz16 HB; have HOz8 := n0_; have HOz11 := n1_; have HOz14 := n2_; have BKz1 := n3_; have BKz2 := n4_; have BKz16 := n5_; have HB := n6_; clear n0_ n1_ n2_ n3_ n4_ n5_ n6_; refine hK.out _ _ (bc2 BKz1) (fun hHeld => ?_)
    clear hK K
    refine norm_ (by show Act.put _ (some 21) _ = _; simp only [Act.put, sa_, s0_, s1_, i64_w, i32_w]; rfl) ?_
    refine pu_ 9 (some 12) HT_ rfl rfl (.inl ⟨by rfl, by intro w'; go_simp; with_reducible rfl⟩) (by simp only [Act.put, sa_, s0_, s1_, i64_w, i32_w]; rfl) ?_
    refine pu_ 10 (some 22) HT_ rfl rfl (.inl ⟨by rfl, by intro w'; go_simp; with_reducible rfl⟩) (by simp only [Act.put, sa_, s0_, s1_, i64_w, i32_w]; rfl) ?_
    refine pu_ 11 (some 23) HT_ rfl rfl (.inl ⟨by rfl, by intro w'; go_simp; with_reducible rfl⟩) (by simp only [Act.put, sa_, s0_, s1_, i64_w, i32_w]; rfl) ?_
    exact norm_ (by simp only [putAll, Act.put, sa_, s0_, s1_] <;> rfl) (hJ2_4_7_8_12 (.slice Ao19 yz6.length co19, vz10, vz13, gbz16) _ ⟨hHeld, (pm HOz8 (fun _ hk => hk.2)), (pr HOz11), (pm HOz14 (fun _ hk => hk.2)), (pk BKz1), (pk BKz2), (pk BKz16), GWz16.out, GEz16.out, NBz1_z16.out, NBz16_z1.out, NBz2_z16.out, NBz16_z2.out, (by repeat first | (with_reducible first | exact HB.out | apply ba | apply bn | apply bd | refine bs (by assumption) ?_) | exact HB.out)⟩)
  ·skip
   rintro ⟨vz7, vz10, vz13⟩ w19 ⟨hS_, h0_, h1_, h2_, h3_, h4_, h5_⟩
   have n0_ : Aside0 (Kd.R k24 24 w19 w.heap.size (fun k_ => some k_ ≠ (vz13 : Value).ownBlock) vz7 yz6) := ⟨h0_⟩
   have n1_ : Aside0 (Kd.R Kd.string 9 w19 w.heap.size (fun _ => True) vz10 tz9) := ⟨h1_⟩
   have n2_ : Aside0 (Kd.R k24 24 w19 w.heap.size (fun k_ => some k_ ≠ (vz7 : Value).ownBlock) vz13 tz12) := ⟨h2_⟩
   have n3_ : Aside0 (w19.heap[gbz1]? = some (.cells #[.slice A0_0 l0_0.length c0_0, .slice A0_1 l0_1.length c0_1] 30 (0, 0))) := ⟨h3_⟩
   have n4_ : Aside0 (w19.heap[gbz2]? = some (.cells #[.slice none 0 0, .slice none 0 0, .int .i64 0, .int .i64 0, .int .i64 0] 56 (0, 0))) := ⟨h4_⟩
   have n5_ : Aside0 (Below w.heap.size w w19) := ⟨h5_⟩
   clear BKz1 BKz2 HB h0_ h1_ h2_ h3_ h4_ h5_; have HOz8 := n0_; have HOz11 := n1_; have HOz14 := n2_; have BKz1 := n3_; have BKz2 := n4_; have HB := n5_; clear n0_ n1_ n2_ n3_ n4_ n5_
   have hHeld : w19.cell? ⟨gbz1, 0, none⟩ = some (.slice A0_0 l0_0.length c0_0) ∧ w19.cell? ⟨gbz1, 1, none⟩ = some (.slice A0_1 l0_1.length c0_1) := hS_
   refine norm_ (by simp only [putAll, Act.put, List.setIfInBounds_toArray, List.set_cons_zero, List.set_cons_succ]; rfl) ?_
   refine on_ 12 (some 4) HT_ rfl rfl (fun K hK => ?_)
   refine box_step ?hg (N := 4) ?hd (cs := #[.slice none 0 0, .slice none 0 0]) (t := 30) ?hr ?_; (case hd => rfl); (case hg => rfl); (case hr => first | (go_simp; done) | (go_simp; rfl))
   intro gbz16 hg w20 hbox hb
   have n0_ := am (Kd.R_below (pr HOz8) hb)
   have n1_ := am (Kd.R_below (pr HOz11) hb)
   have n2_ := am (Kd.R_below (pr HOz14) hb)
   have n3_ := am (bkB (pk BKz1) hb)
   have n4_ := am (bkB (pk BKz2) hb)
   have n5_ := am (below_step (by repeat first | (with_reducible first | exact HB.out | apply ba | apply bn | apply bd | refine bs (by assumption) ?_) | exact HB.out) hb)
   have n6_ := am (hbox)
   have n7_ := ge_ hg (by repeat first | (with_reducible first | exact HB.out | apply ba | apply bn | apply bd | refine bs (by assumption) ?_) | exact HB.out)
   have n8_ := ge_ hg (by repeat first | (with_reducible first | exact HB.out | apply ba | apply bn | apply bd | refine bs (by assumption) ?_) | exact HB.out)
   have n9_ := nl_ hg BKz1
   have n10_ := ng_ hg BKz1
   have n11_ := nl_ hg BKz2
   have n12_ := ng_ hg BKz2
   clear HOz8 HOz11 HOz14 BKz1 BKz2 HB; have HOz8 := n0_; have HOz11 := n1_; have HOz14 := n2_; have BKz1 := n3_; have BKz2 := n4_; have HB := n5_; have BKz16 := n6_; have GWz16 := n7_; have GEz16 := n8_; have NBz1_z16 := n9_; have NBz16_z1 := n10_; have NBz2_z16 := n11_; have NBz16_z2 := n12_; clear n0_ n1_ n2_ n3_ n4_ n5_ n6_ n7_ n8_ n9_ n10_ n11_ n12_; clear hb hbox hg
   refine hK.out _ _ (bc2 BKz1) (fun hHeld => ?_)
   clear hK K
   refine norm_ (by show Act.put _ (some 4) _ = _; simp only [Act.put, sa_, s0_, s1_, i64_w, i32_w]; rfl) ?_
   exact norm_ (by simp only [putAll, Act.put, sa_, s0_, s1_] <;> rfl) (hJ2_4_7_8_12 (vz7, vz10, vz13, gbz16) _ ⟨hHeld, (pr HOz8), (pr HOz11), (pr HOz14), (pk BKz1), (pk BKz2), (pk BKz16), GWz16.out, GEz16.out, NBz1_z16.out, NBz16_z1.out, NBz2_z16.out, NBz16_z2.out, (by repeat first | (with_reducible first | exact HB.out | apply ba | apply bn | apply bd | refine bs (by assumption) ?_) | exact HB.out)⟩)
 rintro ⟨vz7, vz10, vz13, gbz16⟩ w20 ⟨hS_, h0_, h1_, h2_, h3_, h4_, h5_, h6_, h7_, h8_, h9_, h10_, h11_, h12_⟩
 have n0_ : Aside0 (Kd.R k24 24 w20 w.heap.size (fun k_ => some k_ ≠ (vz13 : Value).ownBlock) vz7 yz6) := ⟨h0_⟩
 have n1_ : Aside0 (Kd.R Kd.string 9 w20 w.heap.size (fun _ => True) vz10 tz9) := ⟨h1_⟩
 have n2_ : Aside0 (Kd.R k24 24 w20 w.heap.size (fun k_ => some k_ ≠ (vz7 : Value).ownBlock) vz13 tz12) := ⟨h2_⟩
 have n3_ : Aside0 (w20.heap[gbz1]? = some (.cells #[.slice A0_0 l0_0.length c0_0, .slice A0_1 l0_1.length c0_1] 30 (0, 0))) := ⟨h3_⟩
 have n4_ : Aside0 (w20.heap[gbz2]? = some (.cells #[.slice none 0 0, .slice none 0 0, .int .i64 0, .int .i64 0, .int .i64 0] 56 (0, 0))) := ⟨h4_⟩
 have n5_ : Aside0 (w20.heap[gbz16]? = some (.cells #[.slice none 0 0, .slice none 0 0] 30 (0, 0))) := ⟨h5_⟩
 have n6_ : Aside0 (w.heap.size ≤ gbz16) := ⟨h6_⟩
 have n7_ : Aside0 (w.heap.size ≤ gbz16) := ⟨h7_⟩
 have n8_ : Aside0 (gbz1 ≠ gbz16) := ⟨h8_⟩
 have n9_ : Aside0 (gbz16 ≠ gbz1) := ⟨h9_⟩
 have n10_ : Aside0 (gbz2 ≠ gbz16) := ⟨h10_⟩
 have n11_ : Aside0 (gbz16 ≠ gbz2) := ⟨h11_⟩
 have n12_ : Aside0 (Below w.heap.size w w20) := ⟨h12_⟩
 clear BKz1 BKz2 HB h0_ h1_ h2_ h3_ h4_ h5_ h6_ h7_ h8_ h9_ h10_ h11_ h12_; have HOz8 := n0_; have HOz11 := n1_; have HOz14 := n2_; have BKz1 := n3_; have BKz2 := n4_; have BKz16 := n5_; have GWz16 := n6_; have GEz16 := n7_; have NBz1_z16 := n8_; have NBz16_z1 := n9_; have NBz2_z16 := n10_; have NBz16_z2 := n11_; have HB := n12_; clear n0_ n1_ n2_ n3_ n4_ n5_ n6_ n7_ n8_ n9_ n10_ n11_ n12_
 have hHeld : w20.cell? ⟨gbz1, 0, none⟩ = some (.slice A0_0 l0_0.length c0_0) ∧ w20.cell? ⟨gbz1, 1, none⟩ = some (.slice A0_1 l0_1.length c0_1) := hS_
 obtain ⟨Ao21, co21, eo21⟩ := Kd.R_slice HOz11.out
 (first | subst eo21 | (injection eo21 with f1_ f2_ f3_; have f4_ := f1_.symm; have f5_ := f3_.symm; clear f1_ f2_ f3_; subst f4_; subst f5_))
 obtain ⟨Ao23, co23, eo23⟩ := Kd.R_slice HOz14.out
 (first | subst eo23 | (injection eo23 with f1_ f2_ f3_; have f4_ := f1_.symm; have f5_ := f3_.symm; clear f1_ f2_ f3_; subst f4_; subst f5_))
 refine norm_ (by simp only [putAll, Act.put, List.setIfInBounds_toArray, List.set_cons_zero, List.set_cons_succ]; rfl) ?_
 refine on_ 13 none HT_ rfl rfl (fun K hK => ?_)
 have hs22 : w20.cell? ⟨gbz16, 0, none⟩ = some (.slice none 0 0) := (blk_cell BKz16.out 0).trans rfl
 have hfs22 := blk_frozen BKz16.out 0
 have := NBz1_z16.out
 have := NBz2_z16.out
 have := NBz16_z1.out
 have := NBz16_z2.out
 have hs24 : w20.cell? ⟨gbz16, 1, none⟩ = some (.slice none 0 0) := (blk_cell BKz16.out 1).trans rfl
 have hfs24 := blk_frozen BKz16.out 1
 have := NBz1_z16.out
 have := NBz2_z16.out
 have := NBz16_z1.out
 have := NBz16_z2.out
 refine skip_ (by rfl) rfl (by go_simp; rfl) ?_
 refine hK.out _ _ ⟨((cell_far (p := ⟨gbz16, _, none⟩) NBz1_z16.out _).trans (((cell_far (p := ⟨gbz16, _, none⟩) NBz1_z16.out _).trans (hHeld.1)))), ((cell_far (p := ⟨gbz16, _, none⟩) NBz1_z16.out _).trans (((cell_far (p := ⟨gbz16, _, none⟩) NBz1_z16.out _).trans (hHeld.2))))⟩ (fun hHeld => ?_)
 clear hK K
 refine pu_ 14 (some 5) HT_ rfl rfl (.inl ⟨by rfl, by intro w'; go_simp; with_reducible rfl⟩) (by simp only [Act.put, sa_, s0_, s1_, i64_w, i32_w]; rfl) ?_
 refine done_ (done_of HT_.out (by kernel_rfl)) ?_
 have hnb25 := NBz16_z1.out
 have hnc25 := NBz1_z16.out
 have hnb26 := NBz16_z2.out
 have hnc26 := NBz2_z16.out
 obtain ⟨hcz27_0, hcz27_1⟩ := bc2 BKz16
 obtain ⟨hfz27_0, hfz27_1⟩ := bf2 BKz16
 obtain ⟨hcz28_0, hcz28_1, hcz28_2, hcz28_3, hcz28_4⟩ := bc5 BKz2
 obtain ⟨hfz28_0, hfz28_1, hfz28_2, hfz28_3, hfz28_4⟩ := bf5 BKz2
 try go_wp2
 refine bodyPost_ret (results_ct rfl _ _ gbz2 56 #[.slice Ao21 tz9.length co21, .slice Ao23 tz12.length co23, .int .i64 0, .int .i64 0, .int .i64 0] (0, 0) _ rfl (by (with_reducible repeat (first | refine blk_drewN ?_ _ | refine bkD ?_ | refine bkA ?_ _)); apply bp5; refine blk_far ?_ NBz2_z16.out _; refine blk_far ?_ NBz2_z16.out _; exact pk BKz2) Try.underlying56 rfl (by kernel_rfl)) rfl ?_
 exact ⟨_, _, by first | rfl | (simp <;> rfl) | (simp [*] <;> rfl), by (with_reducible repeat first | apply ra | apply rn | apply rd); exact Kd.R_mono (rf5 (rf2 (Kd.R_types (Kd.R_types HOz11.out BKz16.out (by decide)) BKz2.out (by decide)) (fun _ hk => hk.1.2)) (fun _ hk => hk.2)) (fun _ hk => trivial), by (with_reducible repeat first | apply ra | apply rn | apply rd); exact Kd.R_mono (rf5 (rf2 (Kd.R_types (Kd.R_types HOz14.out BKz16.out (by decide)) BKz2.out (by decide)) (fun _ hk => hk.1.2)) (fun _ hk => hk.2)) (fun _ hk => trivial), by repeat first | (with_reducible first | exact HB.out | apply ba | apply bn | apply bd | refine bs (by assumption) ?_) | exact HB.out⟩
end Go.Proofs.Ytcfinlmocgbnbaa.Pr
end
section
namespace Go.Proofs.Ytcfinlmocgbnbaa.Pr
open Go.Proofs.Ytcfinlmocgbnbaa.Sq Go.RowKit Go.Proofs.YtcfinlmocgbnbaaW.PrintWords Go.Proofs.YtcfinlmocgbnbaaW.PrintLast Go.Proofs.YtcfinlmocgbnbaaW.PrintMore
attribute [local go_sem] max2_int min2_int max_two min_two max_three min_three max_four min_four
set_option linter.unusedVariables false
set_option linter.unusedSimpArgs false
def vault_book_wide.f (l0_0 : List ByteArray) (l0_1 : List (S24)) (a0_2 : Int) (a0_3 : Int) (a0_4 : Int) : Option (Int) := some (wrap64 (Int.tdiv (wrap64 ((l0_0.length : Int) - 2)) 2))
set_option maxHeartbeats 8000000 in
set_option maxRecDepth 100000 in
theorem vault_book_wide.calls (A0_0 : Option Addr) (c0_0 : Nat) (l0_0 : List ByteArray) (A0_1 : Option Addr) (c0_1 : Nat) (l0_1 : List (S24)) (a0_2 : Int) (a0_3 : Int) (a0_4 : Int) (r : Int) (w : World) (hr0_0 : Kd.C Kd.string w A0_0 l0_0.length l0_0) (hc0_0 : l0_0.length ≤ c0_0) (hr0_1 : Kd.C k24 w A0_1 l0_1.length l0_1) (hc0_1 : l0_1.length ≤ c0_1) (h : vault_book_wide.f l0_0 l0_1 a0_2 a0_3 a0_4 = some r) :
  Calls Try.prog 79 #[.agg #[.slice A0_0 l0_0.length c0_0, .slice A0_1 l0_1.length c0_1, .int .i64 a0_2, .int .i64 a0_3, .int .i64 a0_4]] w fun e w' => e = .returned (.int .i64 r) ∧ Below w.heap.size w w' := by
 have hu89 := Try.underlying89
 have HR0_0 := am hr0_0
 have HC0_0 := am hc0_0
 clear hr0_0 hc0_0
 have HR0_1 := am hr0_1
 have HC0_1 := am hc0_1
 clear hr0_1 hc0_1
 have HB := am (Below.refl w.heap.size w)
 have H : (some (wrap64 (Int.tdiv (wrap64 ((l0_0.length : Int) - 2)) 2))) = some r := h
 clear h
 obtain rfl := Option.some.inj H
 go_enter Try.func79, Try.ntmps79
 go_wp2_with (first | ((with_reducible refine gate_dst (N := 1) rfl ?_); refine box_event ?hg (N := 1) ?hd (cs := #[.slice A0_0 l0_0.length c0_0, .slice A0_1 l0_1.length c0_1, .int .i64 a0_2, .int .i64 a0_3, .int .i64 a0_4]) (t := 89) ?hr ?_; (case hd => rfl); (case hg => rfl); (case hr => first | (go_simp; done) | (go_simp; rfl)); intro gbz1 hg w2 hbox hb; have n0_ := am (below_step (pb HB) hb); have n1_ := am (hbox); have n2_ := ge_ hg (pb HB); have n3_ := ge_ hg (pb HB); clear HB; have HB := n0_; have BKz1 := n1_; have GWz1 := n2_; have GEz1 := n3_; clear n0_ n1_ n2_ n3_; clear hb hbox hg; obtain ⟨hcz3_0, hcz3_1, hcz3_2, hcz3_3, hcz3_4⟩ := bc5 BKz1; obtain ⟨hfz3_0, hfz3_1, hfz3_2, hfz3_3, hfz3_4⟩ := bf5 BKz1))
 go_ret
 exact ⟨by first | rfl | (simp <;> rfl) | (simp [*] <;> rfl), by repeat first | (with_reducible first | exact HB.out | apply ba | apply bn | apply bd | refine bs (by assumption) ?_) | exact HB.out⟩
end Go.Proofs.Ytcfinlmocgbnbaa.Pr
end
section
namespace Go.Proofs.Ytcfinlmocgbnbaa.Pr
open Go.Proofs.Ytcfinlmocgbnbaa.Sq Go.RowKit Go.Proofs.YtcfinlmocgbnbaaW.PrintWords Go.Proofs.YtcfinlmocgbnbaaW.PrintLast Go.Proofs.YtcfinlmocgbnbaaW.PrintMore
attribute [local go_sem] max2_int min2_int max_two min_two max_three min_three max_four min_four
set_option linter.unusedVariables false
set_option linter.unusedSimpArgs false
def vault_book_room.f (l0_0 : List ByteArray) (l0_1 : List (S24)) (a0_2 : Int) (a0_3 : Int) (a0_4 : Int) : Option (Int) := (vault_book_wide.f l0_0 l0_1 a0_2 a0_3 a0_4).bind fun tz2 => (some (wrap64 (tz2 * 64)))
set_option maxHeartbeats 8000000 in
set_option maxRecDepth 100000 in
theorem vault_book_room.calls (A0_0 : Option Addr) (c0_0 : Nat) (l0_0 : List ByteArray) (A0_1 : Option Addr) (c0_1 : Nat) (l0_1 : List (S24)) (a0_2 : Int) (a0_3 : Int) (a0_4 : Int) (r : Int) (w : World) (hr0_0 : Kd.C Kd.string w A0_0 l0_0.length l0_0) (hc0_0 : l0_0.length ≤ c0_0) (hr0_1 : Kd.C k24 w A0_1 l0_1.length l0_1) (hc0_1 : l0_1.length ≤ c0_1) (h : vault_book_room.f l0_0 l0_1 a0_2 a0_3 a0_4 = some r) :
  Calls Try.prog 58 #[.agg #[.slice A0_0 l0_0.length c0_0, .slice A0_1 l0_1.length c0_1, .int .i64 a0_2, .int .i64 a0_3, .int .i64 a0_4]] w fun e w' => e = .returned (.int .i64 r) ∧ Below w.heap.size w w' := by
 have hu89 := Try.underlying89
 have HR0_0 := am hr0_0
 have HC0_0 := am hc0_0
 clear hr0_0 hc0_0
 have HR0_1 := am hr0_1
 have HC0_1 := am hc0_1
 clear hr0_1 hc0_1
 have HB := am (Below.refl w.heap.size w)
 have H : ((vault_book_wide.f l0_0 l0_1 a0_2 a0_3 a0_4).bind fun tz2 => (some (wrap64 (tz2 * 64)))) = some r := h
 clear h
 replace H := ob_ H
 obtain ⟨tz2, A20, H⟩ := H
 replace H : (some (wrap64 (tz2 * 64))) = some r := H
 have A2 := Aside0.mk A20
 clear A20
 obtain rfl := Option.some.inj H
 go_enter Try.func58, Try.ntmps58
 go_wp2_with (first | ((with_reducible refine gate_dst (N := 1) rfl ?_); refine box_event ?hg (N := 1) ?hd (cs := #[.slice A0_0 l0_0.length c0_0, .slice A0_1 l0_1.length c0_1, .int .i64 a0_2, .int .i64 a0_3, .int .i64 a0_4]) (t := 89) ?hr ?_; (case hd => rfl); (case hg => rfl); (case hr => first | (go_simp; done) | (go_simp; rfl)); intro gbz1 hg w3 hbox hb; have n0_ := am (below_step (pb HB) hb); have n1_ := am (hbox); have n2_ := ge_ hg (pb HB); have n3_ := ge_ hg (pb HB); clear HB; have HB := n0_; have BKz1 := n1_; have GWz1 := n2_; have GEz1 := n3_; clear n0_ n1_ n2_ n3_; clear hb hbox hg; obtain ⟨hcz4_0, hcz4_1, hcz4_2, hcz4_3, hcz4_4⟩ := bc5 BKz1; obtain ⟨hfz4_0, hfz4_1, hfz4_2, hfz4_3, hfz4_4⟩ := bf5 BKz1) | ((with_reducible refine gate_callee (f := 79) rfl ?_); refine goesL_ (some 4) rfl rfl Try.func79 (by kernel_rfl) rfl #[.agg #[.slice A0_0 l0_0.length c0_0, .slice A0_1 l0_1.length c0_1, .int .i64 a0_2, .int .i64 a0_3, .int .i64 a0_4]] rfl (by (try simp only [List.map_toArray, List.map_cons, List.map_nil]) <;> rfl) ?_; (with_reducible refine (vault_book_wide.calls _ _ l0_0 _ _ l0_1 a0_2 a0_3 a0_4 tz2 _ ?side1 ?side2 ?side3 ?side4 A2.out).mono ?_); (case side1 => repeat (first | exact (Kd.C_below HR0_0.out HB.out) | (with_reducible refine Kd.C_alloc ?_ _) | (with_reducible refine Kd.C_drewN ?_ _) | (with_reducible refine Kd.C_drew ?_))); (case side2 => exact HC0_0.out); (case side3 => repeat (first | exact (Kd.C_below HR0_1.out HB.out) | (with_reducible refine Kd.C_alloc ?_ _) | (with_reducible refine Kd.C_drewN ?_ _) | (with_reducible refine Kd.C_drew ?_))); (case side4 => exact HC0_1.out); rintro e w5 ⟨rfl, hb⟩; refine ⟨_, rfl, ?_⟩; have n0_ := am (bkB (pk BKz1) hb); have n1_ := am (below_step (by repeat first | (with_reducible first | exact HB.out | apply ba | apply bn | apply bd | refine bs (by assumption) ?_) | exact HB.out) hb); clear BKz1; clear HB; have BKz1 := n0_; have HB := n1_; clear n0_ n1_; (try clear hi)))
 go_ret
 exact ⟨by first | rfl | (simp <;> rfl) | (simp [*] <;> rfl), by repeat first | (with_reducible first | exact HB.out | apply ba | apply bn | apply bd | refine bs (by assumption) ?_) | exact HB.out⟩
end Go.Proofs.Ytcfinlmocgbnbaa.Pr
end
section
namespace Go.Proofs.Ytcfinlmocgbnbaa.Pr
open Go.Proofs.Ytcfinlmocgbnbaa.Sq Go.RowKit Go.Shelf Go.Proofs.Ytcfinlmocgbnbaa.XB Go.Proofs.YtcfinlmocgbnbaaW.PrintWords Go.Proofs.YtcfinlmocgbnbaaW.PrintLast Go.Proofs.YtcfinlmocgbnbaaW.PrintMore
attribute [local go_sem] Oper.semAt_some
set_option linter.unusedVariables false
set_option linter.unusedSimpArgs false
set_option maxRecDepth 100000
def vread.T1 : Bool × List (List Nat × List Nat) := (true, [([], []), ([], []), ([], []), ([], []), ([3], [3]), ([4], [4]), ([], []), ([6], [6]), ([7, 5], [7]), ([], []), ([9], [9]), ([10, 8], [10]), ([0, 0, 3, 4, 5, 8, 11], [0]), ([12, 0, 3, 4, 5, 8, 11], [12]), ([13, 0, 3, 4, 5, 8, 11], [13]), ([14, 5, 11, 0, 3, 4, 5, 8, 11], [5, 14]), ([1, 0, 1, 3, 4, 5, 6, 7, 8, 11, 12, 13, 14, 15], [1]), ([16, 0, 1, 3, 4, 5, 6, 7, 8, 11, 12, 13, 14, 15], [16]), ([17, 0, 1, 3, 4, 5, 6, 7, 8, 11, 12, 13, 14, 15], [17]), ([18, 8, 15, 0, 1, 3, 4, 5, 6, 7, 8, 11, 12, 13, 14, 15], [8, 18]), ([2, 0, 1, 2, 3, 4, 5, 6, 7, 8, 9, 10, 11, 12, 13, 14, 15, 16, 17, 18, 19], [2]), ([20, 0, 1, 2, 3, 4, 5, 6, 7, 8, 9, 10, 11, 12, 13, 14, 15, 16, 17, 18, 19], [20]), ([21, 0, 1, 2, 3, 4, 5, 6, 7, 8, 9, 10, 11, 12, 13, 14, 15, 16, 17, 18, 19], [21]), ([22, 11, 19, 0, 1, 2, 3, 4, 5, 6, 7, 8, 9, 10, 11, 12, 13, 14, 15, 16, 17, 18, 19], [11, 22])])
def vread.B1 : List Nat := [0, 0, 0, 0, 8, 24, 0, 64, 248, 0, 512, 2040, 4089, 8185, 16377, 32761, 65531, 131067, 262139, 524283, 1048575, 2097151, 4194303, 8388607]
theorem vread.tab1 : rtab .any (opsOf Try.f60 1) = vread.T1 := by kernel_rfl
theorem vread.bits1 : waitsOk vread.T1.2 vread.B1 = true := by kernel_rfl
def vread.T2 : Bool × List (List Nat × List Nat) := (true, [([], []), ([0], [0]), ([1], [1]), ([2], [2]), ([3], [3]), ([4], [4]), ([5], [5]), ([6], [6]), ([7, 6], [6, 7]), ([8, 6], [6, 8]), ([9, 6], [6, 9]), ([10, 6], [6, 10]), ([11, 6], [6, 11]), ([6, 12], [6, 12]), ([13, 6], [13]), ([14], [14]), ([15, 14], [14, 15]), ([16, 14], [14, 16]), ([17, 14], [14, 17]), ([18, 14], [14, 18]), ([19, 14], [14, 19]), ([14, 20], [14, 20]), ([21, 14], [21]), ([22], [22]), ([23, 22], [22, 23]), ([24, 22], [22, 24]), ([25, 22], [22, 25]), ([26, 22], [22, 26]), ([22], [22]), ([28, 22], [22, 28]), ([29, 22], [22, 29]), ([30, 22, 22], [22, 30]), ([27, 31, 22], [22, 27, 31]), ([22, 32], [22, 32]), ([33, 31], [33]), ([34], [34]), ([35, 34], [34, 35]), ([36, 34], [34, 36]), ([37, 34, 34], [34, 37]), ([34], [34]), ([38, 39, 34], [34, 38, 39]), ([34, 40], [34, 40]), ([41, 38, 0, 1, 2, 3, 4, 5, 6, 7, 8, 9, 10, 11, 12, 13, 14, 15, 16, 17, 18, 19, 20, 21, 22, 23, 24, 25, 26, 27, 28, 29, 30, 31, 32, 33, 34, 35, 36, 37, 38, 39, 40, 41], [41])])
def vread.B2 : List Nat := [0, 1, 3, 7, 15, 31, 63, 127, 255, 511, 1023, 2047, 4095, 8191, 16383, 32767, 65535, 131071, 262143, 524287, 1048575, 2097151, 4194303, 8388607, 16777215, 33554431, 67108863, 134217727, 8388607, 276824063, 813694975, 1887436799, 4294967295, 8589934591, 17179869183, 34359738367, 68719476735, 137438953471, 274877906943, 34359738367, 1099511627775, 2199023255551, 4398046511103]
theorem vread.tab2 : rtab .any (opsOf Try.f60 2) = vread.T2 := by kernel_rfl
theorem vread.bits2 : waitsOk vread.T2.2 vread.B2 = true := by kernel_rfl
set_option maxHeartbeats 8000000 in
theorem vault_read_calls (k : Nat) (g : Nat) {su : List ByteArray} {so : List S24} {A0 A1 : Option Addr} {c0 c1 : Nat} {sq hf ln n1 n2 n3 rm : Int} {s hd : ByteArray} (W0 w : World) (hb0 : Below W0.heap.size W0 w) (hg0 : W0.heap.size ≤ g)
    (hbb : w.heap[g]? = some (.cells #[.slice A0 su.length c0, .slice A1 so.length c1, .int .i64 sq, .int .i64 hf, .int .i64 ln] 89 (0, 0))) (hsu : Kd.C Kd.string W0 A0 su.length su) (hc0 : su.length ≤ c0) (hso : Kd.C k24 W0 A1 so.length so) (hc1 : so.length ≤ c1)
    (hs : 16 ≤ s.size) (h1 : vault_take_int.f (s.extract 0 8) = some n1) (h2 : vault_take_int.f (s.extract 8 12) = some n2) (h3 : vault_take_int.f (s.extract 12 16) = some n3) (hrm : vault_book_room.f su so n1 n2 n3 = some rm) (hhd : vault_book_head.f k su so n1 n2 n3 = some hd) (hn1 : 0 ≤ n1) :
    Calls Try.prog 60 #[.pointer (some ⟨g, 0, none⟩), .string s] w fun e w' => e = .returned (.bool (decide (n1 ≤ 1099511627776) && decide (n2 < 2) && decide (n3 ≤ rm) && decide (hd.toList = s.toList))) ∧ w'.heap[g]? = some (.cells #[.slice A0 su.length c0, .slice A1 so.length c1, .int .i64 n1, .int .i64 n2, .int .i64 n3] 89 (0, 0)) ∧ Below W0.heap.size W0 w' ∧ (∀ g' o, g' ≠ g → w.heap[g']? = some o → w'.heap[g']? = some o) := by
 have H1 := am h1
 have H2 := am h2
 have H3 := am h3
 have HB0 := am hb0
 have HC := Lib.hid (And.intro hsu (And.intro hc0 (And.intro hso (And.intro hc1 (And.intro hrm hhd)))))
 have hn1' := hn1
 have hs8 : (8 : Int) ≤ (s.size : Int) := by omega
 have hs12 : (12 : Int) ≤ (s.size : Int) := by omega
 have hs16 : (16 : Int) ≤ (s.size : Int) := by omega
 clear h1 h2 h3 hb0 hsu hc0 hso hc1 hrm hhd
 go_enter Try.func60, Try.ntmps60
 go_wp2
 have HO := am (below_drew1 (Below.refl w.heap.size w))
 have BB := am (Go.Proofs.YtcfinlmocgbnbaaW.PrintWords.bkD hbb)
 clear hbb
 refine start_ (n := 24) (S := fun w' => True) (ds := [15, 19, 23]) #[false, false, false, false, false, false, false, false, false, false, false, false, false, false, false, false, false, false, false, false, false, false, false, false] (by kernel_rfl) rfl rfl trivial (fun hHeld => ?_); refine with_tabW vread.tab1 vread.bits1 (fun HT_ HW_ => ?_)
 generalize w.drew = w0 at HO BB hHeld ⊢
 refine pu_ 0 (some 5) HT_ rfl rfl (.inl ⟨by rfl, by intro w'; go_simp; with_reducible rfl⟩) (by simp only [Act.put, sa_, s0_, s1_, i64_w, i32_w]; rfl) ?_
 refine pu_ 1 (some 6) HT_ rfl rfl (.inl ⟨by rfl, by intro w'; go_simp; with_reducible rfl⟩) (by simp only [Act.put, sa_, s0_, s1_, i64_w, i32_w]; rfl) ?_
 refine pu_ 2 (some 7) HT_ rfl rfl (.inl ⟨by rfl, by intro w'; go_simp; with_reducible rfl⟩) (by simp only [Act.put, sa_, s0_, s1_, i64_w, i32_w]; rfl) ?_
 refine pu_ 3 (some 8) HT_ rfl rfl (.inl ⟨by rfl, by intro w'; go_simp; with_reducible rfl⟩) (by simp only [Act.put, sa_, s0_, s1_, i64_w, i32_w]; rfl) ?_
 refine pu_ 4 (some 9) HT_ rfl rfl (.inl ⟨by rfl, by intro w'; go_simp; with_reducible rfl⟩) (by simp only [Act.put, sa_, s0_, s1_, i64_w, i32_w]; rfl) ?_
 refine pu_ 6 (some 11) HT_ rfl rfl (.inl ⟨by rfl, by intro w'; go_simp; with_reducible rfl⟩) (by simp only [Act.put, sa_, s0_, s1_, i64_w, i32_w]; rfl) ?_
 refine pu_ 7 (some 12) HT_ rfl rfl (.inl ⟨by rfl, by intro w'; go_simp; with_reducible rfl⟩) (by simp only [Act.put, sa_, s0_, s1_, i64_w, i32_w]; rfl) ?_
 refine pu_ 9 (some 14) HT_ rfl rfl (.inl ⟨by rfl, by intro w'; go_simp; with_reducible rfl⟩) (by simp only [Act.put, sa_, s0_, s1_, i64_w, i32_w]; rfl) ?_
 refine pu_ 10 (some 15) HT_ rfl rfl (.inl ⟨by rfl, by intro w'; go_simp; with_reducible rfl⟩) (by simp only [Act.put, sa_, s0_, s1_, i64_w, i32_w]; rfl) ?_
 refine on_ 5 (some 10) HT_ rfl rfl (fun K hK => ?_)
 refine goes_ Try.func80 (by kernel_rfl) rfl #[.string (s.extract 0 8)] (by rfl) rfl rfl (by (try simp only [List.map_toArray, List.map_cons, List.map_nil]) <;> rfl) ?_
 refine (vault_take_int.calls (s.extract 0 8) n1 _ H1.out).mono ?_
 rintro e W2 ⟨rfl, hb⟩
 refine ⟨_, rfl, ?_⟩
 have m0_ := am (below_step HO.out hb); have m1_ := am (blk_same BB.out hb); clear HO BB; have HO := m0_; have BB := m1_; clear m0_ m1_ hb
 refine hK.out _ _ trivial (fun hHeld => ?_)
 clear hK K
 refine norm_ (by show Act.put _ (some 10) _ = _; simp only [Act.put, sa_, s0_, s1_, i64_w, i32_w]; rfl) ?_
 refine on_ 8 (some 13) HT_ rfl rfl (fun K hK => ?_)
 refine goes_ Try.func80 (by kernel_rfl) rfl #[.string (s.extract 8 12)] (by rfl) rfl rfl (by (try simp only [List.map_toArray, List.map_cons, List.map_nil]) <;> rfl) ?_
 refine (vault_take_int.calls (s.extract 8 12) n2 _ H2.out).mono ?_
 rintro e W2 ⟨rfl, hb⟩
 refine ⟨_, rfl, ?_⟩
 have m0_ := am (below_step HO.out hb); have m1_ := am (blk_same BB.out hb); clear HO BB; have HO := m0_; have BB := m1_; clear m0_ m1_ hb
 refine hK.out _ _ trivial (fun hHeld => ?_)
 clear hK K
 refine norm_ (by show Act.put _ (some 13) _ = _; simp only [Act.put, sa_, s0_, s1_, i64_w, i32_w]; rfl) ?_
 refine on_ 11 (some 16) HT_ rfl rfl (fun K hK => ?_)
 refine goes_ Try.func80 (by kernel_rfl) rfl #[.string (s.extract 12 16)] (by rfl) rfl rfl (by (try simp only [List.map_toArray, List.map_cons, List.map_nil]) <;> rfl) ?_
 refine (vault_take_int.calls (s.extract 12 16) n3 _ H3.out).mono ?_
 rintro e W2 ⟨rfl, hb⟩
 refine ⟨_, rfl, ?_⟩
 have m0_ := am (below_step HO.out hb); have m1_ := am (blk_same BB.out hb); clear HO BB; have HO := m0_; have BB := m1_; clear m0_ m1_ hb
 refine hK.out _ _ trivial (fun hHeld => ?_)
 clear hK K
 refine norm_ (by show Act.put _ (some 16) _ = _; simp only [Act.put, sa_, s0_, s1_, i64_w, i32_w]; rfl) ?_
 refine pu_ 12 (some 17) HT_ rfl rfl (.inl ⟨by rfl, by intro w'; go_simp; with_reducible rfl⟩) (by simp only [Act.put, sa_, s0_, s1_, i64_w, i32_w]; rfl) ?_
 refine pu_ 13 (some 18) HT_ rfl rfl (.inl ⟨by rfl, by intro w'; go_simp; with_reducible rfl⟩) (by simp only [Act.put, sa_, s0_, s1_, i64_w, i32_w]; rfl) ?_
 refine pu_ 14 (some 19) HT_ rfl rfl (.inl ⟨by rfl, by intro w'; go_simp; with_reducible rfl⟩) (by simp only [Act.put, sa_, s0_, s1_, i64_w, i32_w]; rfl) ?_
 refine la_ 15 none HT_ rfl rfl (fun K hK => ?_)
 have hs1 := (blk_cell BB.out 2).trans rfl; have hf1 := blk_frozen BB.out 2
 refine skip_ (by rfl) rfl (by go_simp; rfl) ?_
 refine hK.out _ _ ?_
 clear hK K hs1 hf1
 have m1_ := am (show (W2.setCell ⟨g, 2, none⟩ (.int .i64 n1)).heap[g]? = some (.cells #[.slice A0 su.length c0, .slice A1 so.length c1, .int .i64 n1, .int .i64 hf, .int .i64 ln] 89 (0, 0)) from Go.Proofs.YtcfinlmocgbnbaaW.PrintWords.blk_set BB.out 2 _); clear BB; have BB := m1_; clear m1_
 refine pu_ 16 (some 20) HT_ rfl rfl (.inl ⟨by rfl, by intro w'; go_simp; with_reducible rfl⟩) (by simp only [Act.put, sa_, s0_, s1_, i64_w, i32_w]; rfl) ?_
 refine pu_ 17 (some 21) HT_ rfl rfl (.inl ⟨by rfl, by intro w'; go_simp; with_reducible rfl⟩) (by simp only [Act.put, sa_, s0_, s1_, i64_w, i32_w]; rfl) ?_
 refine pu_ 18 (some 22) HT_ rfl rfl (.inl ⟨by rfl, by intro w'; go_simp; with_reducible rfl⟩) (by simp only [Act.put, sa_, s0_, s1_, i64_w, i32_w]; rfl) ?_
 refine la_ 19 none HT_ rfl rfl (fun K hK => ?_)
 have hs1 := (blk_cell BB.out 3).trans rfl; have hf1 := blk_frozen BB.out 3
 refine skip_ (by rfl) rfl (by go_simp; rfl) ?_
 refine hK.out _ _ ?_
 clear hK K hs1 hf1
 have m1_ := am (show ((W2.setCell ⟨g, 2, none⟩ (.int .i64 n1)).setCell ⟨g, 3, none⟩ (.int .i64 n2)).heap[g]? = some (.cells #[.slice A0 su.length c0, .slice A1 so.length c1, .int .i64 n1, .int .i64 n2, .int .i64 ln] 89 (0, 0)) from Go.Proofs.YtcfinlmocgbnbaaW.PrintWords.blk_set BB.out 3 _); clear BB; have BB := m1_; clear m1_
 refine pu_ 20 (some 23) HT_ rfl rfl (.inl ⟨by rfl, by intro w'; go_simp; with_reducible rfl⟩) (by simp only [Act.put, sa_, s0_, s1_, i64_w, i32_w]; rfl) ?_
 refine pu_ 21 (some 24) HT_ rfl rfl (.inl ⟨by rfl, by intro w'; go_simp; with_reducible rfl⟩) (by simp only [Act.put, sa_, s0_, s1_, i64_w, i32_w]; rfl) ?_
 refine pu_ 22 (some 25) HT_ rfl rfl (.inl ⟨by rfl, by intro w'; go_simp; with_reducible rfl⟩) (by simp only [Act.put, sa_, s0_, s1_, i64_w, i32_w]; rfl) ?_
 refine la_ 23 none HT_ rfl rfl (fun K hK => ?_)
 have hs1 := (blk_cell BB.out 4).trans rfl; have hf1 := blk_frozen BB.out 4
 refine skip_ (by rfl) rfl (by go_simp; rfl) ?_
 refine hK.out _ _ ?_
 clear hK K hs1 hf1
 have m1_ := am (show (((W2.setCell ⟨g, 2, none⟩ (.int .i64 n1)).setCell ⟨g, 3, none⟩ (.int .i64 n2)).setCell ⟨g, 4, none⟩ (.int .i64 n3)).heap[g]? = some (.cells #[.slice A0 su.length c0, .slice A1 so.length c1, .int .i64 n1, .int .i64 n2, .int .i64 n3] 89 (0, 0)) from Go.Proofs.YtcfinlmocgbnbaaW.PrintWords.blk_set BB.out 4 _); clear BB; have BB := m1_; clear m1_
 refine done_ (done_of HT_.out (by kernel_rfl)) ?_
 have XB0 : Aside0 (Below W0.heap.size W0 (((W2.setCell ⟨g, 2, none⟩ (.int .i64 n1)).setCell ⟨g, 3, none⟩ (.int .i64 n2)).setCell ⟨g, 4, none⟩ (.int .i64 n3))) := am (below_set (below_set (below_set (HB0.out.trans (HO.out.mono HB0.out.size)) hg0) hg0) hg0)
 have XK : Aside0 (∀ g' o, g' ≠ g → w.heap[g']? = some o → (((W2.setCell ⟨g, 2, none⟩ (.int .i64 n1)).setCell ⟨g, 3, none⟩ (.int .i64 n2)).setCell ⟨g, 4, none⟩ (.int .i64 n3)).heap[g']? = some o) := am (fun g' o hne hg => (Below.heap_setCell _ _ _ _ (fun e => hne (by rw [e]))).trans ((Below.heap_setCell _ _ _ _ (fun e => hne (by rw [e]))).trans ((Below.heap_setCell _ _ _ _ (fun e => hne (by rw [e]))).trans (blk_same hg HO.out))))
 have BX := BB
 clear BB
 generalize (((W2.setCell ⟨g, 2, none⟩ (.int .i64 n1)).setCell ⟨g, 3, none⟩ (.int .i64 n2)).setCell ⟨g, 4, none⟩ (.int .i64 n3)) = X at XB0 XK BX ⊢
 clear HO HB0 H1 H2 H3 HT_ HW_ hHeld hs8 hs12 hs16 hs
 have r58 : ∀ W, Below X.heap.size X W → Calls Try.prog 58 #[.agg #[.slice A0 su.length c0, .slice A1 so.length c1, .int .i64 n1, .int .i64 n2, .int .i64 n3]] W fun e w' => e = .returned (.int .i64 rm) ∧ Below W.heap.size W w' := fun W h => vault_book_room.calls _ _ su _ _ so n1 n2 n3 rm W (Kd.C_below HC.out.1 (XB0.out.trans (h.mono XB0.out.size))) HC.out.2.1 (Kd.C_below HC.out.2.2.1 (XB0.out.trans (h.mono XB0.out.size))) HC.out.2.2.2.1 HC.out.2.2.2.2.1
 have r56 : ∀ W, Below X.heap.size X W → Calls Try.prog 56 #[.agg #[.slice A0 su.length c0, .slice A1 so.length c1, .int .i64 n1, .int .i64 n2, .int .i64 n3]] W fun e w' => e = .returned (.string hd) ∧ Below W.heap.size W w' := fun W h => vault_book_head.calls k _ _ su _ _ so n1 n2 n3 hd W (Kd.C_below HC.out.1 (XB0.out.trans (h.mono XB0.out.size))) HC.out.2.1 (Kd.C_below HC.out.2.2.1 (XB0.out.trans (h.mono XB0.out.size))) HC.out.2.2.2.1 HC.out.2.2.2.2.2
 clear HC
 go_wp2
 by_cases q1 : n1 ≤ 1099511627776
 rotate_left
 · have q1b := decide_eq_false q1
   have XO := am (below_drew1 (Below.refl X.heap.size X))
   have XX := am (Go.Proofs.YtcfinlmocgbnbaaW.PrintWords.bkD BX.out)
   refine start_ (n := 43) (S := fun w' => w'.cell? ⟨g, 0, none⟩ = some (.slice A0 su.length c0) ∧ w'.cell? ⟨g, 1, none⟩ = some (.slice A1 so.length c1) ∧ w'.cell? ⟨g, 2, none⟩ = some (.int .i64 n1) ∧ w'.cell? ⟨g, 3, none⟩ = some (.int .i64 n2) ∧ w'.cell? ⟨g, 4, none⟩ = some (.int .i64 n3)) (ds := []) #[false, false, false, false, false, false, false, false, false, false, false, false, false, false, false, false, false, false, false, false, false, false, false, false, false, false, false, false, false, false, false, false, false, false, false, false, false, false, false, false, false, false, false] (by kernel_rfl) rfl rfl (bc5 XX) (fun hHeld => ?_); refine with_tabW vread.tab2 vread.bits2 (fun HT_ HW_ => ?_)
   generalize X.drew = Y at XO XX hHeld ⊢
   refine pu_ 0 (some 26) HT_ rfl rfl (.inl ⟨by rfl, by intro w'; go_simp; with_reducible rfl⟩) (by simp only [Act.put, sa_, s0_, s1_, i64_w, i32_w]; rfl) ?_
   refine pu_ 1 (some 27) HT_ rfl rfl (.inl ⟨by rfl, by intro w'; go_simp; with_reducible rfl⟩) (by simp only [Act.put, sa_, s0_, s1_, i64_w, i32_w]; rfl) ?_
   refine pu_ 2 (some 28) HT_ rfl rfl (.inl ⟨by rfl, by intro w'; go_simp; with_reducible rfl⟩) (by simp only [Act.put, sa_, s0_, s1_, i64_w, i32_w]; rfl) ?_
   refine pu_ 3 (some 29) HT_ rfl rfl (.inl ⟨by rfl, by intro w'; go_simp; with_reducible rfl⟩) (by simp only [Act.put, sa_, s0_, s1_, i64_w, i32_w]; rfl) ?_
   refine tk_ 4 (some 30) HT_ HW_ rfl rfl (.inl ⟨by rfl, by rintro w' ⟨s0, s1, s2, s3, s4⟩; go_simp; with_reducible rfl⟩) hHeld (by simp only [Act.put, sa_, s0_, s1_, i64_w, i32_w]; rfl) ?_
   refine pu_ 5 (some 31) HT_ rfl rfl (.inl ⟨by rfl, by intro w'; go_simp; with_reducible rfl⟩) (by simp only [Act.put, sa_, s0_, s1_, i64_w, i32_w]; rfl) ?_
   refine pu_ 6 (some 32) HT_ rfl rfl (.inl ⟨by rfl, by intro w'; go_simp; with_reducible rfl⟩) (by simp only [Act.put, sa_, s0_, s1_, i64_w, i32_w]; rfl) ?_
   refine pu_ 7 (some 33) HT_ rfl rfl (.inl ⟨by rfl, by intro w'; go_simp; with_reducible rfl⟩) (by simp only [Act.put, sa_, s0_, s1_, i64_w, i32_w]; rfl) ?_
   refine pu_ 8 (some 34) HT_ rfl rfl (.inl ⟨by rfl, by intro w'; go_simp; with_reducible rfl⟩) (by simp only [Act.put, sa_, s0_, s1_, i64_w, i32_w]; rfl) ?_
   refine pu_ 9 (some 35) HT_ rfl rfl (.inl ⟨by rfl, by intro w'; go_simp; with_reducible rfl⟩) (by simp only [Act.put, sa_, s0_, s1_, i64_w, i32_w]; rfl) ?_
   refine pu_ 10 (some 36) HT_ rfl rfl (.inl ⟨by rfl, by intro w'; go_simp; with_reducible rfl⟩) (by simp only [Act.put, sa_, s0_, s1_, i64_w, i32_w]; rfl) ?_
   refine tk_ 11 (some 37) HT_ HW_ rfl rfl (.inl ⟨by rfl, by rintro w' ⟨s0, s1, s2, s3, s4⟩; go_simp; with_reducible rfl⟩) hHeld (by simp only [Act.put, sa_, s0_, s1_, i64_w, i32_w]; rfl) ?_
   refine pu_ 12 (some 38) HT_ rfl rfl (.inl ⟨by rfl, by intro w'; go_simp; with_reducible rfl⟩) (by simp only [Act.put, sa_, s0_, s1_, i64_w, i32_w]; rfl) ?_
   refine pu_ 13 (some 39) HT_ rfl rfl (.inl ⟨by rfl, by intro w'; go_simp; with_reducible rfl⟩) (by simp only [Act.put, sa_, s0_, s1_, i64_w, i32_w]; rfl) ?_
   refine pu_ 14 (some 40) HT_ rfl rfl (.inl ⟨by rfl, by intro w'; go_simp; with_reducible rfl⟩) (by simp only [Act.put, sa_, s0_, s1_, i64_w, i32_w]; rfl) ?_
   refine pu_ 15 (some 41) HT_ rfl rfl (.inr ⟨by rfl, rfl⟩) (by simp only [Act.put, sa_, s0_, s1_, i64_w, i32_w]; rfl) ?_
   refine pu_ 16 (some 42) HT_ rfl rfl (.inr ⟨by rfl, rfl⟩) (by simp only [Act.put, sa_, s0_, s1_, i64_w, i32_w]; rfl) ?_
   refine pu_ 17 (some 43) HT_ rfl rfl (.inr ⟨by rfl, rfl⟩) (by simp only [Act.put, sa_, s0_, s1_, i64_w, i32_w]; rfl) ?_
   refine pu_ 18 (some 44) HT_ rfl rfl (.inr ⟨by rfl, rfl⟩) (by simp only [Act.put, sa_, s0_, s1_, i64_w, i32_w]; rfl) ?_
   refine pu_ 19 (some 45) HT_ rfl rfl (.inr ⟨by rfl, rfl⟩) (by simp only [Act.put, sa_, s0_, s1_, i64_w, i32_w]; rfl) ?_
   refine pu_ 20 (some 46) HT_ rfl rfl (.inr ⟨by rfl, rfl⟩) (by simp only [Act.put, sa_, s0_, s1_, i64_w, i32_w]; rfl) ?_
   refine pu_ 21 (some 47) HT_ rfl rfl (.inl ⟨by rfl, by intro w'; go_simp; with_reducible rfl⟩) (by simp only [Act.put, sa_, s0_, s1_, i64_w, i32_w]; rfl) ?_
   refine pu_ 22 (some 48) HT_ rfl rfl (.inl ⟨by rfl, by intro w'; go_simp; with_reducible rfl⟩) (by simp only [Act.put, sa_, s0_, s1_, i64_w, i32_w]; rfl) ?_
   refine pu_ 23 (some 49) HT_ rfl rfl (.inr ⟨by rfl, rfl⟩) (by simp only [Act.put, sa_, s0_, s1_, i64_w, i32_w]; rfl) ?_
   refine pu_ 24 (some 50) HT_ rfl rfl (.inr ⟨by rfl, rfl⟩) (by simp only [Act.put, sa_, s0_, s1_, i64_w, i32_w]; rfl) ?_
   refine pu_ 25 (some 51) HT_ rfl rfl (.inr ⟨by rfl, rfl⟩) (by simp only [Act.put, sa_, s0_, s1_, i64_w, i32_w]; rfl) ?_
   refine pu_ 26 (some 52) HT_ rfl rfl (.inr ⟨by rfl, rfl⟩) (by simp only [Act.put, sa_, s0_, s1_, i64_w, i32_w]; rfl) ?_
   refine pu_ 27 (some 53) HT_ rfl rfl (.inr ⟨by rfl, rfl⟩) (by simp only [Act.put, sa_, s0_, s1_, i64_w, i32_w]; rfl) ?_
   refine pu_ 28 (some 54) HT_ rfl rfl (.inr ⟨by rfl, rfl⟩) (by simp only [Act.put, sa_, s0_, s1_, i64_w, i32_w]; rfl) ?_
   refine pu_ 29 (some 55) HT_ rfl rfl (.inr ⟨by rfl, rfl⟩) (by simp only [Act.put, sa_, s0_, s1_, i64_w, i32_w]; rfl) ?_
   refine pu_ 30 (some 56) HT_ rfl rfl (.inr ⟨by rfl, rfl⟩) (by simp only [Act.put, sa_, s0_, s1_, i64_w, i32_w]; rfl) ?_
   refine pu_ 31 (some 57) HT_ rfl rfl (.inr ⟨by rfl, rfl⟩) (by simp only [Act.put, sa_, s0_, s1_, i64_w, i32_w]; rfl) ?_
   refine pu_ 32 (some 58) HT_ rfl rfl (.inr ⟨by rfl, rfl⟩) (by simp only [Act.put, sa_, s0_, s1_, i64_w, i32_w]; rfl) ?_
   refine pu_ 33 (some 59) HT_ rfl rfl (.inl ⟨by rfl, by intro w'; go_simp; with_reducible rfl⟩) (by simp only [Act.put, sa_, s0_, s1_, i64_w, i32_w]; rfl) ?_
   refine pu_ 34 (some 60) HT_ rfl rfl (.inl ⟨by rfl, by intro w'; go_simp; with_reducible rfl⟩) (by simp only [Act.put, sa_, s0_, s1_, i64_w, i32_w]; rfl) ?_
   refine pu_ 35 (some 61) HT_ rfl rfl (.inr ⟨by rfl, rfl⟩) (by simp only [Act.put, sa_, s0_, s1_, i64_w, i32_w]; rfl) ?_
   refine pu_ 36 (some 62) HT_ rfl rfl (.inr ⟨by rfl, rfl⟩) (by simp only [Act.put, sa_, s0_, s1_, i64_w, i32_w]; rfl) ?_
   refine pu_ 37 (some 63) HT_ rfl rfl (.inr ⟨by rfl, rfl⟩) (by simp only [Act.put, sa_, s0_, s1_, i64_w, i32_w]; rfl) ?_
   refine pu_ 38 (some 64) HT_ rfl rfl (.inr ⟨by rfl, rfl⟩) (by simp only [Act.put, sa_, s0_, s1_, i64_w, i32_w]; rfl) ?_
   refine pu_ 39 (some 65) HT_ rfl rfl (.inr ⟨by rfl, rfl⟩) (by simp only [Act.put, sa_, s0_, s1_, i64_w, i32_w]; rfl) ?_
   refine pu_ 40 (some 66) HT_ rfl rfl (.inr ⟨by rfl, rfl⟩) (by simp only [Act.put, sa_, s0_, s1_, i64_w, i32_w]; rfl) ?_
   refine pu_ 41 (some 67) HT_ rfl rfl (.inl ⟨by rfl, by intro w'; go_simp; with_reducible rfl⟩) (by simp only [Act.put, sa_, s0_, s1_, i64_w, i32_w]; rfl) ?_
   refine pu_ 42 (some 4) HT_ rfl rfl (.inl ⟨by rfl, by intro w'; go_simp; with_reducible rfl⟩) (by simp only [Act.put, sa_, s0_, s1_, i64_w, i32_w]; rfl) ?_
   refine done_ (done_of HT_.out (by kernel_rfl)) ?_
   go_wp2
   go_ret
   exact ⟨by simp [*], XX.out, XB0.out.trans (XO.out.mono XB0.out.size), fun g' o hne hg => blk_same (XK.out g' o hne hg) XO.out⟩
 have q1b := decide_eq_true q1
 by_cases q2 : n2 < 2
 rotate_left
 · have q2b := decide_eq_false q2
   have XO := am (below_drew1 (Below.refl X.heap.size X))
   have XX := am (Go.Proofs.YtcfinlmocgbnbaaW.PrintWords.bkD BX.out)
   refine start_ (n := 43) (S := fun w' => w'.cell? ⟨g, 0, none⟩ = some (.slice A0 su.length c0) ∧ w'.cell? ⟨g, 1, none⟩ = some (.slice A1 so.length c1) ∧ w'.cell? ⟨g, 2, none⟩ = some (.int .i64 n1) ∧ w'.cell? ⟨g, 3, none⟩ = some (.int .i64 n2) ∧ w'.cell? ⟨g, 4, none⟩ = some (.int .i64 n3)) (ds := []) #[false, false, false, false, false, false, false, false, false, false, false, false, false, false, false, false, false, false, false, false, false, false, false, false, false, false, false, false, false, false, false, false, false, false, false, false, false, false, false, false, false, false, false] (by kernel_rfl) rfl rfl (bc5 XX) (fun hHeld => ?_); refine with_tabW vread.tab2 vread.bits2 (fun HT_ HW_ => ?_)
   generalize X.drew = Y at XO XX hHeld ⊢
   refine pu_ 0 (some 26) HT_ rfl rfl (.inl ⟨by rfl, by intro w'; go_simp; with_reducible rfl⟩) (by simp only [Act.put, sa_, s0_, s1_, i64_w, i32_w]; rfl) ?_
   refine pu_ 1 (some 27) HT_ rfl rfl (.inl ⟨by rfl, by intro w'; go_simp; with_reducible rfl⟩) (by simp only [Act.put, sa_, s0_, s1_, i64_w, i32_w]; rfl) ?_
   refine pu_ 2 (some 28) HT_ rfl rfl (.inl ⟨by rfl, by intro w'; go_simp; with_reducible rfl⟩) (by simp only [Act.put, sa_, s0_, s1_, i64_w, i32_w]; rfl) ?_
   refine pu_ 3 (some 29) HT_ rfl rfl (.inl ⟨by rfl, by intro w'; go_simp; with_reducible rfl⟩) (by simp only [Act.put, sa_, s0_, s1_, i64_w, i32_w]; rfl) ?_
   refine tk_ 4 (some 30) HT_ HW_ rfl rfl (.inl ⟨by rfl, by rintro w' ⟨s0, s1, s2, s3, s4⟩; go_simp; with_reducible rfl⟩) hHeld (by simp only [Act.put, sa_, s0_, s1_, i64_w, i32_w]; rfl) ?_
   refine pu_ 5 (some 31) HT_ rfl rfl (.inl ⟨by rfl, by intro w'; go_simp; with_reducible rfl⟩) (by simp only [Act.put, sa_, s0_, s1_, i64_w, i32_w]; rfl) ?_
   refine pu_ 6 (some 32) HT_ rfl rfl (.inl ⟨by rfl, by intro w'; go_simp; with_reducible rfl⟩) (by simp only [Act.put, sa_, s0_, s1_, i64_w, i32_w]; rfl) ?_
   refine pu_ 7 (some 33) HT_ rfl rfl (.inl ⟨by rfl, by intro w'; go_simp; with_reducible rfl⟩) (by simp only [Act.put, sa_, s0_, s1_, i64_w, i32_w]; rfl) ?_
   refine pu_ 8 (some 34) HT_ rfl rfl (.inl ⟨by rfl, by intro w'; go_simp; with_reducible rfl⟩) (by simp only [Act.put, sa_, s0_, s1_, i64_w, i32_w]; rfl) ?_
   refine pu_ 9 (some 35) HT_ rfl rfl (.inl ⟨by rfl, by intro w'; go_simp; with_reducible rfl⟩) (by simp only [Act.put, sa_, s0_, s1_, i64_w, i32_w]; rfl) ?_
   refine pu_ 10 (some 36) HT_ rfl rfl (.inl ⟨by rfl, by intro w'; go_simp; with_reducible rfl⟩) (by simp only [Act.put, sa_, s0_, s1_, i64_w, i32_w]; rfl) ?_
   refine tk_ 11 (some 37) HT_ HW_ rfl rfl (.inl ⟨by rfl, by rintro w' ⟨s0, s1, s2, s3, s4⟩; go_simp; with_reducible rfl⟩) hHeld (by simp only [Act.put, sa_, s0_, s1_, i64_w, i32_w]; rfl) ?_
   refine pu_ 12 (some 38) HT_ rfl rfl (.inl ⟨by rfl, by intro w'; go_simp; with_reducible rfl⟩) (by simp only [Act.put, sa_, s0_, s1_, i64_w, i32_w]; rfl) ?_
   refine pu_ 13 (some 39) HT_ rfl rfl (.inl ⟨by rfl, by intro w'; go_simp; with_reducible rfl⟩) (by simp only [Act.put, sa_, s0_, s1_, i64_w, i32_w]; rfl) ?_
   refine pu_ 14 (some 40) HT_ rfl rfl (.inl ⟨by rfl, by intro w'; go_simp; with_reducible rfl⟩) (by simp only [Act.put, sa_, s0_, s1_, i64_w, i32_w]; rfl) ?_
   refine pu_ 15 (some 41) HT_ rfl rfl (.inl ⟨by rfl, by intro w'; go_simp; with_reducible rfl⟩) (by simp only [Act.put, sa_, s0_, s1_, i64_w, i32_w]; rfl) ?_
   refine pu_ 16 (some 42) HT_ rfl rfl (.inl ⟨by rfl, by intro w'; go_simp; with_reducible rfl⟩) (by simp only [Act.put, sa_, s0_, s1_, i64_w, i32_w]; rfl) ?_
   refine pu_ 17 (some 43) HT_ rfl rfl (.inl ⟨by rfl, by intro w'; go_simp; with_reducible rfl⟩) (by simp only [Act.put, sa_, s0_, s1_, i64_w, i32_w]; rfl) ?_
   refine pu_ 18 (some 44) HT_ rfl rfl (.inl ⟨by rfl, by intro w'; go_simp; with_reducible rfl⟩) (by simp only [Act.put, sa_, s0_, s1_, i64_w, i32_w]; rfl) ?_
   refine tk_ 19 (some 45) HT_ HW_ rfl rfl (.inl ⟨by rfl, by rintro w' ⟨s0, s1, s2, s3, s4⟩; go_simp; with_reducible rfl⟩) hHeld (by simp only [Act.put, sa_, s0_, s1_, i64_w, i32_w]; rfl) ?_
   refine pu_ 20 (some 46) HT_ rfl rfl (.inl ⟨by rfl, by intro w'; go_simp; with_reducible rfl⟩) (by simp only [Act.put, sa_, s0_, s1_, i64_w, i32_w]; rfl) ?_
   refine pu_ 21 (some 47) HT_ rfl rfl (.inl ⟨by rfl, by intro w'; go_simp; with_reducible rfl⟩) (by simp only [Act.put, sa_, s0_, s1_, i64_w, i32_w]; rfl) ?_
   refine pu_ 22 (some 48) HT_ rfl rfl (.inl ⟨by rfl, by intro w'; go_simp; with_reducible rfl⟩) (by simp only [Act.put, sa_, s0_, s1_, i64_w, i32_w]; rfl) ?_
   refine pu_ 23 (some 49) HT_ rfl rfl (.inr ⟨by rfl, rfl⟩) (by simp only [Act.put, sa_, s0_, s1_, i64_w, i32_w]; rfl) ?_
   refine pu_ 24 (some 50) HT_ rfl rfl (.inr ⟨by rfl, rfl⟩) (by simp only [Act.put, sa_, s0_, s1_, i64_w, i32_w]; rfl) ?_
   refine pu_ 25 (some 51) HT_ rfl rfl (.inr ⟨by rfl, rfl⟩) (by simp only [Act.put, sa_, s0_, s1_, i64_w, i32_w]; rfl) ?_
   refine pu_ 26 (some 52) HT_ rfl rfl (.inr ⟨by rfl, rfl⟩) (by simp only [Act.put, sa_, s0_, s1_, i64_w, i32_w]; rfl) ?_
   refine pu_ 27 (some 53) HT_ rfl rfl (.inr ⟨by rfl, rfl⟩) (by simp only [Act.put, sa_, s0_, s1_, i64_w, i32_w]; rfl) ?_
   refine pu_ 28 (some 54) HT_ rfl rfl (.inr ⟨by rfl, rfl⟩) (by simp only [Act.put, sa_, s0_, s1_, i64_w, i32_w]; rfl) ?_
   refine pu_ 29 (some 55) HT_ rfl rfl (.inr ⟨by rfl, rfl⟩) (by simp only [Act.put, sa_, s0_, s1_, i64_w, i32_w]; rfl) ?_
   refine pu_ 30 (some 56) HT_ rfl rfl (.inr ⟨by rfl, rfl⟩) (by simp only [Act.put, sa_, s0_, s1_, i64_w, i32_w]; rfl) ?_
   refine pu_ 31 (some 57) HT_ rfl rfl (.inr ⟨by rfl, rfl⟩) (by simp only [Act.put, sa_, s0_, s1_, i64_w, i32_w]; rfl) ?_
   refine pu_ 32 (some 58) HT_ rfl rfl (.inr ⟨by rfl, rfl⟩) (by simp only [Act.put, sa_, s0_, s1_, i64_w, i32_w]; rfl) ?_
   refine pu_ 33 (some 59) HT_ rfl rfl (.inl ⟨by rfl, by intro w'; go_simp; with_reducible rfl⟩) (by simp only [Act.put, sa_, s0_, s1_, i64_w, i32_w]; rfl) ?_
   refine pu_ 34 (some 60) HT_ rfl rfl (.inl ⟨by rfl, by intro w'; go_simp; with_reducible rfl⟩) (by simp only [Act.put, sa_, s0_, s1_, i64_w, i32_w]; rfl) ?_
   refine pu_ 35 (some 61) HT_ rfl rfl (.inr ⟨by rfl, rfl⟩) (by simp only [Act.put, sa_, s0_, s1_, i64_w, i32_w]; rfl) ?_
   refine pu_ 36 (some 62) HT_ rfl rfl (.inr ⟨by rfl, rfl⟩) (by simp only [Act.put, sa_, s0_, s1_, i64_w, i32_w]; rfl) ?_
   refine pu_ 37 (some 63) HT_ rfl rfl (.inr ⟨by rfl, rfl⟩) (by simp only [Act.put, sa_, s0_, s1_, i64_w, i32_w]; rfl) ?_
   refine pu_ 38 (some 64) HT_ rfl rfl (.inr ⟨by rfl, rfl⟩) (by simp only [Act.put, sa_, s0_, s1_, i64_w, i32_w]; rfl) ?_
   refine pu_ 39 (some 65) HT_ rfl rfl (.inr ⟨by rfl, rfl⟩) (by simp only [Act.put, sa_, s0_, s1_, i64_w, i32_w]; rfl) ?_
   refine pu_ 40 (some 66) HT_ rfl rfl (.inr ⟨by rfl, rfl⟩) (by simp only [Act.put, sa_, s0_, s1_, i64_w, i32_w]; rfl) ?_
   refine pu_ 41 (some 67) HT_ rfl rfl (.inl ⟨by rfl, by intro w'; go_simp; with_reducible rfl⟩) (by simp only [Act.put, sa_, s0_, s1_, i64_w, i32_w]; rfl) ?_
   refine pu_ 42 (some 4) HT_ rfl rfl (.inl ⟨by rfl, by intro w'; go_simp; with_reducible rfl⟩) (by simp only [Act.put, sa_, s0_, s1_, i64_w, i32_w]; rfl) ?_
   refine done_ (done_of HT_.out (by kernel_rfl)) ?_
   go_wp2
   go_ret
   exact ⟨by simp [*], XX.out, XB0.out.trans (XO.out.mono XB0.out.size), fun g' o hne hg => blk_same (XK.out g' o hne hg) XO.out⟩
 have q2b := decide_eq_true q2
 by_cases q3 : n3 ≤ rm
 rotate_left
 · have q3b := decide_eq_false q3
   have XO := am (below_drew1 (Below.refl X.heap.size X))
   have XX := am (Go.Proofs.YtcfinlmocgbnbaaW.PrintWords.bkD BX.out)
   refine start_ (n := 43) (S := fun w' => w'.cell? ⟨g, 0, none⟩ = some (.slice A0 su.length c0) ∧ w'.cell? ⟨g, 1, none⟩ = some (.slice A1 so.length c1) ∧ w'.cell? ⟨g, 2, none⟩ = some (.int .i64 n1) ∧ w'.cell? ⟨g, 3, none⟩ = some (.int .i64 n2) ∧ w'.cell? ⟨g, 4, none⟩ = some (.int .i64 n3)) (ds := []) #[false, false, false, false, false, false, false, false, false, false, false, false, false, false, false, false, false, false, false, false, false, false, false, false, false, false, false, false, false, false, false, false, false, false, false, false, false, false, false, false, false, false, false] (by kernel_rfl) rfl rfl (bc5 XX) (fun hHeld => ?_); refine with_tabW vread.tab2 vread.bits2 (fun HT_ HW_ => ?_)
   generalize X.drew = Y at XO XX hHeld ⊢
   refine pu_ 0 (some 26) HT_ rfl rfl (.inl ⟨by rfl, by intro w'; go_simp; with_reducible rfl⟩) (by simp only [Act.put, sa_, s0_, s1_, i64_w, i32_w]; rfl) ?_
   refine pu_ 1 (some 27) HT_ rfl rfl (.inl ⟨by rfl, by intro w'; go_simp; with_reducible rfl⟩) (by simp only [Act.put, sa_, s0_, s1_, i64_w, i32_w]; rfl) ?_
   refine pu_ 2 (some 28) HT_ rfl rfl (.inl ⟨by rfl, by intro w'; go_simp; with_reducible rfl⟩) (by simp only [Act.put, sa_, s0_, s1_, i64_w, i32_w]; rfl) ?_
   refine pu_ 3 (some 29) HT_ rfl rfl (.inl ⟨by rfl, by intro w'; go_simp; with_reducible rfl⟩) (by simp only [Act.put, sa_, s0_, s1_, i64_w, i32_w]; rfl) ?_
   refine tk_ 4 (some 30) HT_ HW_ rfl rfl (.inl ⟨by rfl, by rintro w' ⟨s0, s1, s2, s3, s4⟩; go_simp; with_reducible rfl⟩) hHeld (by simp only [Act.put, sa_, s0_, s1_, i64_w, i32_w]; rfl) ?_
   refine pu_ 5 (some 31) HT_ rfl rfl (.inl ⟨by rfl, by intro w'; go_simp; with_reducible rfl⟩) (by simp only [Act.put, sa_, s0_, s1_, i64_w, i32_w]; rfl) ?_
   refine pu_ 6 (some 32) HT_ rfl rfl (.inl ⟨by rfl, by intro w'; go_simp; with_reducible rfl⟩) (by simp only [Act.put, sa_, s0_, s1_, i64_w, i32_w]; rfl) ?_
   refine pu_ 7 (some 33) HT_ rfl rfl (.inl ⟨by rfl, by intro w'; go_simp; with_reducible rfl⟩) (by simp only [Act.put, sa_, s0_, s1_, i64_w, i32_w]; rfl) ?_
   refine pu_ 8 (some 34) HT_ rfl rfl (.inl ⟨by rfl, by intro w'; go_simp; with_reducible rfl⟩) (by simp only [Act.put, sa_, s0_, s1_, i64_w, i32_w]; rfl) ?_
   refine pu_ 9 (some 35) HT_ rfl rfl (.inl ⟨by rfl, by intro w'; go_simp; with_reducible rfl⟩) (by simp only [Act.put, sa_, s0_, s1_, i64_w, i32_w]; rfl) ?_
   refine pu_ 10 (some 36) HT_ rfl rfl (.inl ⟨by rfl, by intro w'; go_simp; with_reducible rfl⟩) (by simp only [Act.put, sa_, s0_, s1_, i64_w, i32_w]; rfl) ?_
   refine tk_ 11 (some 37) HT_ HW_ rfl rfl (.inl ⟨by rfl, by rintro w' ⟨s0, s1, s2, s3, s4⟩; go_simp; with_reducible rfl⟩) hHeld (by simp only [Act.put, sa_, s0_, s1_, i64_w, i32_w]; rfl) ?_
   refine pu_ 12 (some 38) HT_ rfl rfl (.inl ⟨by rfl, by intro w'; go_simp; with_reducible rfl⟩) (by simp only [Act.put, sa_, s0_, s1_, i64_w, i32_w]; rfl) ?_
   refine pu_ 13 (some 39) HT_ rfl rfl (.inl ⟨by rfl, by intro w'; go_simp; with_reducible rfl⟩) (by simp only [Act.put, sa_, s0_, s1_, i64_w, i32_w]; rfl) ?_
   refine pu_ 14 (some 40) HT_ rfl rfl (.inl ⟨by rfl, by intro w'; go_simp; with_reducible rfl⟩) (by simp only [Act.put, sa_, s0_, s1_, i64_w, i32_w]; rfl) ?_
   refine pu_ 15 (some 41) HT_ rfl rfl (.inl ⟨by rfl, by intro w'; go_simp; with_reducible rfl⟩) (by simp only [Act.put, sa_, s0_, s1_, i64_w, i32_w]; rfl) ?_
   refine pu_ 16 (some 42) HT_ rfl rfl (.inl ⟨by rfl, by intro w'; go_simp; with_reducible rfl⟩) (by simp only [Act.put, sa_, s0_, s1_, i64_w, i32_w]; rfl) ?_
   refine pu_ 17 (some 43) HT_ rfl rfl (.inl ⟨by rfl, by intro w'; go_simp; with_reducible rfl⟩) (by simp only [Act.put, sa_, s0_, s1_, i64_w, i32_w]; rfl) ?_
   refine pu_ 18 (some 44) HT_ rfl rfl (.inl ⟨by rfl, by intro w'; go_simp; with_reducible rfl⟩) (by simp only [Act.put, sa_, s0_, s1_, i64_w, i32_w]; rfl) ?_
   refine tk_ 19 (some 45) HT_ HW_ rfl rfl (.inl ⟨by rfl, by rintro w' ⟨s0, s1, s2, s3, s4⟩; go_simp; with_reducible rfl⟩) hHeld (by simp only [Act.put, sa_, s0_, s1_, i64_w, i32_w]; rfl) ?_
   refine pu_ 20 (some 46) HT_ rfl rfl (.inl ⟨by rfl, by intro w'; go_simp; with_reducible rfl⟩) (by simp only [Act.put, sa_, s0_, s1_, i64_w, i32_w]; rfl) ?_
   refine pu_ 21 (some 47) HT_ rfl rfl (.inl ⟨by rfl, by intro w'; go_simp; with_reducible rfl⟩) (by simp only [Act.put, sa_, s0_, s1_, i64_w, i32_w]; rfl) ?_
   refine pu_ 22 (some 48) HT_ rfl rfl (.inl ⟨by rfl, by intro w'; go_simp; with_reducible rfl⟩) (by simp only [Act.put, sa_, s0_, s1_, i64_w, i32_w]; rfl) ?_
   refine pu_ 23 (some 49) HT_ rfl rfl (.inl ⟨by rfl, by intro w'; go_simp; with_reducible rfl⟩) (by simp only [Act.put, sa_, s0_, s1_, i64_w, i32_w]; rfl) ?_
   refine pu_ 24 (some 50) HT_ rfl rfl (.inl ⟨by rfl, by intro w'; go_simp; with_reducible rfl⟩) (by simp only [Act.put, sa_, s0_, s1_, i64_w, i32_w]; rfl) ?_
   refine pu_ 25 (some 51) HT_ rfl rfl (.inl ⟨by rfl, by intro w'; go_simp; with_reducible rfl⟩) (by simp only [Act.put, sa_, s0_, s1_, i64_w, i32_w]; rfl) ?_
   refine pu_ 26 (some 52) HT_ rfl rfl (.inl ⟨by rfl, by intro w'; go_simp; with_reducible rfl⟩) (by simp only [Act.put, sa_, s0_, s1_, i64_w, i32_w]; rfl) ?_
   refine tk_ 27 (some 53) HT_ HW_ rfl rfl (.inl ⟨by rfl, by rintro w' ⟨s0, s1, s2, s3, s4⟩; go_simp; with_reducible rfl⟩) hHeld (by simp only [Act.put, sa_, s0_, s1_, i64_w, i32_w]; rfl) ?_
   refine pu_ 28 (some 54) HT_ rfl rfl (.inl ⟨by rfl, by intro w'; go_simp; with_reducible rfl⟩) (by simp only [Act.put, sa_, s0_, s1_, i64_w, i32_w]; rfl) ?_
   refine pu_ 29 (some 55) HT_ rfl rfl (.inl ⟨by rfl, by intro w'; go_simp; with_reducible rfl⟩) (by simp only [Act.put, sa_, s0_, s1_, i64_w, i32_w]; rfl) ?_
   refine tk_ 30 (some 56) HT_ HW_ rfl rfl (.inl ⟨by rfl, by rintro w' ⟨s0, s1, s2, s3, s4⟩; go_simp; with_reducible rfl⟩) hHeld (by simp only [Act.put, sa_, s0_, s1_, i64_w, i32_w]; rfl) ?_
   refine on_ 31 (some 57) HT_ rfl rfl (fun K hK => ?_)
   refine goes_ Try.func58 (by kernel_rfl) rfl #[.agg #[.slice A0 su.length c0, .slice A1 so.length c1, .int .i64 n1, .int .i64 n2, .int .i64 n3]] (by rfl) rfl rfl (by (try simp only [List.map_toArray, List.map_cons, List.map_nil]) <;> rfl) ?_
   refine (r58 _ XO.out).mono ?_
   rintro e W5 ⟨rfl, hb⟩
   refine ⟨_, rfl, ?_⟩
   have m0_ := am (below_step XO.out hb); have m1_ := am (blk_same XX.out hb); clear XO XX hb; have XO := m0_; have XX := m1_; clear m0_ m1_
   refine hK.out _ _ (bc5 XX) (fun hHeld => ?_)
   clear hK K
   refine norm_ (by show Act.put _ (some 57) _ = _; simp only [Act.put, sa_, s0_, s1_, i64_w, i32_w]; rfl) ?_
   refine pu_ 32 (some 58) HT_ rfl rfl (.inl ⟨by rfl, by intro w'; go_simp; with_reducible rfl⟩) (by simp only [Act.put, sa_, s0_, s1_, i64_w, i32_w]; rfl) ?_
   refine pu_ 33 (some 59) HT_ rfl rfl (.inl ⟨by rfl, by intro w'; go_simp; with_reducible rfl⟩) (by simp only [Act.put, sa_, s0_, s1_, i64_w, i32_w]; rfl) ?_
   refine pu_ 34 (some 60) HT_ rfl rfl (.inl ⟨by rfl, by intro w'; go_simp; with_reducible rfl⟩) (by simp only [Act.put, sa_, s0_, s1_, i64_w, i32_w]; rfl) ?_
   refine pu_ 35 (some 61) HT_ rfl rfl (.inr ⟨by rfl, rfl⟩) (by simp only [Act.put, sa_, s0_, s1_, i64_w, i32_w]; rfl) ?_
   refine pu_ 36 (some 62) HT_ rfl rfl (.inr ⟨by rfl, rfl⟩) (by simp only [Act.put, sa_, s0_, s1_, i64_w, i32_w]; rfl) ?_
   refine pu_ 37 (some 63) HT_ rfl rfl (.inr ⟨by rfl, rfl⟩) (by simp only [Act.put, sa_, s0_, s1_, i64_w, i32_w]; rfl) ?_
   refine pu_ 38 (some 64) HT_ rfl rfl (.inr ⟨by rfl, rfl⟩) (by simp only [Act.put, sa_, s0_, s1_, i64_w, i32_w]; rfl) ?_
   refine pu_ 39 (some 65) HT_ rfl rfl (.inr ⟨by rfl, rfl⟩) (by simp only [Act.put, sa_, s0_, s1_, i64_w, i32_w]; rfl) ?_
   refine pu_ 40 (some 66) HT_ rfl rfl (.inr ⟨by rfl, rfl⟩) (by simp only [Act.put, sa_, s0_, s1_, i64_w, i32_w]; rfl) ?_
   refine pu_ 41 (some 67) HT_ rfl rfl (.inl ⟨by rfl, by intro w'; go_simp; with_reducible rfl⟩) (by simp only [Act.put, sa_, s0_, s1_, i64_w, i32_w]; rfl) ?_
   refine pu_ 42 (some 4) HT_ rfl rfl (.inl ⟨by rfl, by intro w'; go_simp; with_reducible rfl⟩) (by simp only [Act.put, sa_, s0_, s1_, i64_w, i32_w]; rfl) ?_
   refine done_ (done_of HT_.out (by kernel_rfl)) ?_
   go_wp2
   go_ret
   exact ⟨by simp [*], XX.out, XB0.out.trans (XO.out.mono XB0.out.size), fun g' o hne hg => blk_same (XK.out g' o hne hg) XO.out⟩
 have q3b := decide_eq_true q3
 by_cases q4 : hd.toList = s.toList
 rotate_left
 · have q4b := decide_eq_false q4
   have XO := am (below_drew1 (Below.refl X.heap.size X))
   have XX := am (Go.Proofs.YtcfinlmocgbnbaaW.PrintWords.bkD BX.out)
   refine start_ (n := 43) (S := fun w' => w'.cell? ⟨g, 0, none⟩ = some (.slice A0 su.length c0) ∧ w'.cell? ⟨g, 1, none⟩ = some (.slice A1 so.length c1) ∧ w'.cell? ⟨g, 2, none⟩ = some (.int .i64 n1) ∧ w'.cell? ⟨g, 3, none⟩ = some (.int .i64 n2) ∧ w'.cell? ⟨g, 4, none⟩ = some (.int .i64 n3)) (ds := []) #[false, false, false, false, false, false, false, false, false, false, false, false, false, false, false, false, false, false, false, false, false, false, false, false, false, false, false, false, false, false, false, false, false, false, false, false, false, false, false, false, false, false, false] (by kernel_rfl) rfl rfl (bc5 XX) (fun hHeld => ?_); refine with_tabW vread.tab2 vread.bits2 (fun HT_ HW_ => ?_)
   generalize X.drew = Y at XO XX hHeld ⊢
   refine pu_ 0 (some 26) HT_ rfl rfl (.inl ⟨by rfl, by intro w'; go_simp; with_reducible rfl⟩) (by simp only [Act.put, sa_, s0_, s1_, i64_w, i32_w]; rfl) ?_
   refine pu_ 1 (some 27) HT_ rfl rfl (.inl ⟨by rfl, by intro w'; go_simp; with_reducible rfl⟩) (by simp only [Act.put, sa_, s0_, s1_, i64_w, i32_w]; rfl) ?_
   refine pu_ 2 (some 28) HT_ rfl rfl (.inl ⟨by rfl, by intro w'; go_simp; with_reducible rfl⟩) (by simp only [Act.put, sa_, s0_, s1_, i64_w, i32_w]; rfl) ?_
   refine pu_ 3 (some 29) HT_ rfl rfl (.inl ⟨by rfl, by intro w'; go_simp; with_reducible rfl⟩) (by simp only [Act.put, sa_, s0_, s1_, i64_w, i32_w]; rfl) ?_
   refine tk_ 4 (some 30) HT_ HW_ rfl rfl (.inl ⟨by rfl, by rintro w' ⟨s0, s1, s2, s3, s4⟩; go_simp; with_reducible rfl⟩) hHeld (by simp only [Act.put, sa_, s0_, s1_, i64_w, i32_w]; rfl) ?_
   refine pu_ 5 (some 31) HT_ rfl rfl (.inl ⟨by rfl, by intro w'; go_simp; with_reducible rfl⟩) (by simp only [Act.put, sa_, s0_, s1_, i64_w, i32_w]; rfl) ?_
   refine pu_ 6 (some 32) HT_ rfl rfl (.inl ⟨by rfl, by intro w'; go_simp; with_reducible rfl⟩) (by simp only [Act.put, sa_, s0_, s1_, i64_w, i32_w]; rfl) ?_
   refine pu_ 7 (some 33) HT_ rfl rfl (.inl ⟨by rfl, by intro w'; go_simp; with_reducible rfl⟩) (by simp only [Act.put, sa_, s0_, s1_, i64_w, i32_w]; rfl) ?_
   refine pu_ 8 (some 34) HT_ rfl rfl (.inl ⟨by rfl, by intro w'; go_simp; with_reducible rfl⟩) (by simp only [Act.put, sa_, s0_, s1_, i64_w, i32_w]; rfl) ?_
   refine pu_ 9 (some 35) HT_ rfl rfl (.inl ⟨by rfl, by intro w'; go_simp; with_reducible rfl⟩) (by simp only [Act.put, sa_, s0_, s1_, i64_w, i32_w]; rfl) ?_
   refine pu_ 10 (some 36) HT_ rfl rfl (.inl ⟨by rfl, by intro w'; go_simp; with_reducible rfl⟩) (by simp only [Act.put, sa_, s0_, s1_, i64_w, i32_w]; rfl) ?_
   refine tk_ 11 (some 37) HT_ HW_ rfl rfl (.inl ⟨by rfl, by rintro w' ⟨s0, s1, s2, s3, s4⟩; go_simp; with_reducible rfl⟩) hHeld (by simp only [Act.put, sa_, s0_, s1_, i64_w, i32_w]; rfl) ?_
   refine pu_ 12 (some 38) HT_ rfl rfl (.inl ⟨by rfl, by intro w'; go_simp; with_reducible rfl⟩) (by simp only [Act.put, sa_, s0_, s1_, i64_w, i32_w]; rfl) ?_
   refine pu_ 13 (some 39) HT_ rfl rfl (.inl ⟨by rfl, by intro w'; go_simp; with_reducible rfl⟩) (by simp only [Act.put, sa_, s0_, s1_, i64_w, i32_w]; rfl) ?_
   refine pu_ 14 (some 40) HT_ rfl rfl (.inl ⟨by rfl, by intro w'; go_simp; with_reducible rfl⟩) (by simp only [Act.put, sa_, s0_, s1_, i64_w, i32_w]; rfl) ?_
   refine pu_ 15 (some 41) HT_ rfl rfl (.inl ⟨by rfl, by intro w'; go_simp; with_reducible rfl⟩) (by simp only [Act.put, sa_, s0_, s1_, i64_w, i32_w]; rfl) ?_
   refine pu_ 16 (some 42) HT_ rfl rfl (.inl ⟨by rfl, by intro w'; go_simp; with_reducible rfl⟩) (by simp only [Act.put, sa_, s0_, s1_, i64_w, i32_w]; rfl) ?_
   refine pu_ 17 (some 43) HT_ rfl rfl (.inl ⟨by rfl, by intro w'; go_simp; with_reducible rfl⟩) (by simp only [Act.put, sa_, s0_, s1_, i64_w, i32_w]; rfl) ?_
   refine pu_ 18 (some 44) HT_ rfl rfl (.inl ⟨by rfl, by intro w'; go_simp; with_reducible rfl⟩) (by simp only [Act.put, sa_, s0_, s1_, i64_w, i32_w]; rfl) ?_
   refine tk_ 19 (some 45) HT_ HW_ rfl rfl (.inl ⟨by rfl, by rintro w' ⟨s0, s1, s2, s3, s4⟩; go_simp; with_reducible rfl⟩) hHeld (by simp only [Act.put, sa_, s0_, s1_, i64_w, i32_w]; rfl) ?_
   refine pu_ 20 (some 46) HT_ rfl rfl (.inl ⟨by rfl, by intro w'; go_simp; with_reducible rfl⟩) (by simp only [Act.put, sa_, s0_, s1_, i64_w, i32_w]; rfl) ?_
   refine pu_ 21 (some 47) HT_ rfl rfl (.inl ⟨by rfl, by intro w'; go_simp; with_reducible rfl⟩) (by simp only [Act.put, sa_, s0_, s1_, i64_w, i32_w]; rfl) ?_
   refine pu_ 22 (some 48) HT_ rfl rfl (.inl ⟨by rfl, by intro w'; go_simp; with_reducible rfl⟩) (by simp only [Act.put, sa_, s0_, s1_, i64_w, i32_w]; rfl) ?_
   refine pu_ 23 (some 49) HT_ rfl rfl (.inl ⟨by rfl, by intro w'; go_simp; with_reducible rfl⟩) (by simp only [Act.put, sa_, s0_, s1_, i64_w, i32_w]; rfl) ?_
   refine pu_ 24 (some 50) HT_ rfl rfl (.inl ⟨by rfl, by intro w'; go_simp; with_reducible rfl⟩) (by simp only [Act.put, sa_, s0_, s1_, i64_w, i32_w]; rfl) ?_
   refine pu_ 25 (some 51) HT_ rfl rfl (.inl ⟨by rfl, by intro w'; go_simp; with_reducible rfl⟩) (by simp only [Act.put, sa_, s0_, s1_, i64_w, i32_w]; rfl) ?_
   refine pu_ 26 (some 52) HT_ rfl rfl (.inl ⟨by rfl, by intro w'; go_simp; with_reducible rfl⟩) (by simp only [Act.put, sa_, s0_, s1_, i64_w, i32_w]; rfl) ?_
   refine tk_ 27 (some 53) HT_ HW_ rfl rfl (.inl ⟨by rfl, by rintro w' ⟨s0, s1, s2, s3, s4⟩; go_simp; with_reducible rfl⟩) hHeld (by simp only [Act.put, sa_, s0_, s1_, i64_w, i32_w]; rfl) ?_
   refine pu_ 28 (some 54) HT_ rfl rfl (.inl ⟨by rfl, by intro w'; go_simp; with_reducible rfl⟩) (by simp only [Act.put, sa_, s0_, s1_, i64_w, i32_w]; rfl) ?_
   refine pu_ 29 (some 55) HT_ rfl rfl (.inl ⟨by rfl, by intro w'; go_simp; with_reducible rfl⟩) (by simp only [Act.put, sa_, s0_, s1_, i64_w, i32_w]; rfl) ?_
   refine tk_ 30 (some 56) HT_ HW_ rfl rfl (.inl ⟨by rfl, by rintro w' ⟨s0, s1, s2, s3, s4⟩; go_simp; with_reducible rfl⟩) hHeld (by simp only [Act.put, sa_, s0_, s1_, i64_w, i32_w]; rfl) ?_
   refine on_ 31 (some 57) HT_ rfl rfl (fun K hK => ?_)
   refine goes_ Try.func58 (by kernel_rfl) rfl #[.agg #[.slice A0 su.length c0, .slice A1 so.length c1, .int .i64 n1, .int .i64 n2, .int .i64 n3]] (by rfl) rfl rfl (by (try simp only [List.map_toArray, List.map_cons, List.map_nil]) <;> rfl) ?_
   refine (r58 _ XO.out).mono ?_
   rintro e W5 ⟨rfl, hb⟩
   refine ⟨_, rfl, ?_⟩
   have m0_ := am (below_step XO.out hb); have m1_ := am (blk_same XX.out hb); clear XO XX hb; have XO := m0_; have XX := m1_; clear m0_ m1_
   refine hK.out _ _ (bc5 XX) (fun hHeld => ?_)
   clear hK K
   refine norm_ (by show Act.put _ (some 57) _ = _; simp only [Act.put, sa_, s0_, s1_, i64_w, i32_w]; rfl) ?_
   refine pu_ 32 (some 58) HT_ rfl rfl (.inl ⟨by rfl, by intro w'; go_simp; with_reducible rfl⟩) (by simp only [Act.put, sa_, s0_, s1_, i64_w, i32_w]; rfl) ?_
   refine pu_ 33 (some 59) HT_ rfl rfl (.inl ⟨by rfl, by intro w'; go_simp; with_reducible rfl⟩) (by simp only [Act.put, sa_, s0_, s1_, i64_w, i32_w]; rfl) ?_
   refine pu_ 34 (some 60) HT_ rfl rfl (.inl ⟨by rfl, by intro w'; go_simp; with_reducible rfl⟩) (by simp only [Act.put, sa_, s0_, s1_, i64_w, i32_w]; rfl) ?_
   refine pu_ 35 (some 61) HT_ rfl rfl (.inl ⟨by rfl, by intro w'; go_simp; with_reducible rfl⟩) (by simp only [Act.put, sa_, s0_, s1_, i64_w, i32_w]; rfl) ?_
   refine pu_ 36 (some 62) HT_ rfl rfl (.inl ⟨by rfl, by intro w'; go_simp; with_reducible rfl⟩) (by simp only [Act.put, sa_, s0_, s1_, i64_w, i32_w]; rfl) ?_
   refine tk_ 37 (some 63) HT_ HW_ rfl rfl (.inl ⟨by rfl, by rintro w' ⟨s0, s1, s2, s3, s4⟩; go_simp; with_reducible rfl⟩) hHeld (by simp only [Act.put, sa_, s0_, s1_, i64_w, i32_w]; rfl) ?_
   refine pu_ 39 (some 65) HT_ rfl rfl (.inl ⟨by rfl, by intro w'; go_simp; with_reducible rfl⟩) (by simp only [Act.put, sa_, s0_, s1_, i64_w, i32_w]; rfl) ?_
   refine on_ 38 (some 64) HT_ rfl rfl (fun K hK => ?_)
   refine goes_ Try.func56 (by kernel_rfl) rfl #[.agg #[.slice A0 su.length c0, .slice A1 so.length c1, .int .i64 n1, .int .i64 n2, .int .i64 n3]] (by rfl) rfl rfl (by (try simp only [List.map_toArray, List.map_cons, List.map_nil]) <;> rfl) ?_
   refine (r56 _ XO.out).mono ?_
   rintro e W5 ⟨rfl, hb⟩
   refine ⟨_, rfl, ?_⟩
   have m0_ := am (below_step XO.out hb); have m1_ := am (blk_same XX.out hb); clear XO XX hb; have XO := m0_; have XX := m1_; clear m0_ m1_
   refine hK.out _ _ (bc5 XX) (fun hHeld => ?_)
   clear hK K
   refine norm_ (by show Act.put _ (some 64) _ = _; simp only [Act.put, sa_, s0_, s1_, i64_w, i32_w]; rfl) ?_
   refine pu_ 40 (some 66) HT_ rfl rfl (.inl ⟨by rfl, by intro w'; go_simp; with_reducible rfl⟩) (by simp only [Act.put, sa_, s0_, s1_, i64_w, i32_w]; rfl) ?_
   refine pu_ 41 (some 67) HT_ rfl rfl (.inl ⟨by rfl, by intro w'; go_simp; with_reducible rfl⟩) (by simp only [Act.put, sa_, s0_, s1_, i64_w, i32_w]; rfl) ?_
   refine pu_ 42 (some 4) HT_ rfl rfl (.inl ⟨by rfl, by intro w'; go_simp; with_reducible rfl⟩) (by simp only [Act.put, sa_, s0_, s1_, i64_w, i32_w]; rfl) ?_
   refine done_ (done_of HT_.out (by kernel_rfl)) ?_
   go_wp2
   go_ret
   exact ⟨by simp [*], XX.out, XB0.out.trans (XO.out.mono XB0.out.size), fun g' o hne hg => blk_same (XK.out g' o hne hg) XO.out⟩
 have q4b := decide_eq_true q4
 have XO := am (below_drew1 (Below.refl X.heap.size X))
 have XX := am (Go.Proofs.YtcfinlmocgbnbaaW.PrintWords.bkD BX.out)
 refine start_ (n := 43) (S := fun w' => w'.cell? ⟨g, 0, none⟩ = some (.slice A0 su.length c0) ∧ w'.cell? ⟨g, 1, none⟩ = some (.slice A1 so.length c1) ∧ w'.cell? ⟨g, 2, none⟩ = some (.int .i64 n1) ∧ w'.cell? ⟨g, 3, none⟩ = some (.int .i64 n2) ∧ w'.cell? ⟨g, 4, none⟩ = some (.int .i64 n3)) (ds := []) #[false, false, false, false, false, false, false, false, false, false, false, false, false, false, false, false, false, false, false, false, false, false, false, false, false, false, false, false, false, false, false, false, false, false, false, false, false, false, false, false, false, false, false] (by kernel_rfl) rfl rfl (bc5 XX) (fun hHeld => ?_); refine with_tabW vread.tab2 vread.bits2 (fun HT_ HW_ => ?_)
 generalize X.drew = Y at XO XX hHeld ⊢
 refine pu_ 0 (some 26) HT_ rfl rfl (.inl ⟨by rfl, by intro w'; go_simp; with_reducible rfl⟩) (by simp only [Act.put, sa_, s0_, s1_, i64_w, i32_w]; rfl) ?_
 refine pu_ 1 (some 27) HT_ rfl rfl (.inl ⟨by rfl, by intro w'; go_simp; with_reducible rfl⟩) (by simp only [Act.put, sa_, s0_, s1_, i64_w, i32_w]; rfl) ?_
 refine pu_ 2 (some 28) HT_ rfl rfl (.inl ⟨by rfl, by intro w'; go_simp; with_reducible rfl⟩) (by simp only [Act.put, sa_, s0_, s1_, i64_w, i32_w]; rfl) ?_
 refine pu_ 3 (some 29) HT_ rfl rfl (.inl ⟨by rfl, by intro w'; go_simp; with_reducible rfl⟩) (by simp only [Act.put, sa_, s0_, s1_, i64_w, i32_w]; rfl) ?_
 refine tk_ 4 (some 30) HT_ HW_ rfl rfl (.inl ⟨by rfl, by rintro w' ⟨s0, s1, s2, s3, s4⟩; go_simp; with_reducible rfl⟩) hHeld (by simp only [Act.put, sa_, s0_, s1_, i64_w, i32_w]; rfl) ?_
 refine pu_ 5 (some 31) HT_ rfl rfl (.inl ⟨by rfl, by intro w'; go_simp; with_reducible rfl⟩) (by simp only [Act.put, sa_, s0_, s1_, i64_w, i32_w]; rfl) ?_
 refine pu_ 6 (some 32) HT_ rfl rfl (.inl ⟨by rfl, by intro w'; go_simp; with_reducible rfl⟩) (by simp only [Act.put, sa_, s0_, s1_, i64_w, i32_w]; rfl) ?_
 refine pu_ 7 (some 33) HT_ rfl rfl (.inl ⟨by rfl, by intro w'; go_simp; with_reducible rfl⟩) (by simp only [Act.put, sa_, s0_, s1_, i64_w, i32_w]; rfl) ?_
 refine pu_ 8 (some 34) HT_ rfl rfl (.inl ⟨by rfl, by intro w'; go_simp; with_reducible rfl⟩) (by simp only [Act.put, sa_, s0_, s1_, i64_w, i32_w]; rfl) ?_
 refine pu_ 9 (some 35) HT_ rfl rfl (.inl ⟨by rfl, by intro w'; go_simp; with_reducible rfl⟩) (by simp only [Act.put, sa_, s0_, s1_, i64_w, i32_w]; rfl) ?_
 refine pu_ 10 (some 36) HT_ rfl rfl (.inl ⟨by rfl, by intro w'; go_simp; with_reducible rfl⟩) (by simp only [Act.put, sa_, s0_, s1_, i64_w, i32_w]; rfl) ?_
 refine tk_ 11 (some 37) HT_ HW_ rfl rfl (.inl ⟨by rfl, by rintro w' ⟨s0, s1, s2, s3, s4⟩; go_simp; with_reducible rfl⟩) hHeld (by simp only [Act.put, sa_, s0_, s1_, i64_w, i32_w]; rfl) ?_
 refine pu_ 12 (some 38) HT_ rfl rfl (.inl ⟨by rfl, by intro w'; go_simp; with_reducible rfl⟩) (by simp only [Act.put, sa_, s0_, s1_, i64_w, i32_w]; rfl) ?_
 refine pu_ 13 (some 39) HT_ rfl rfl (.inl ⟨by rfl, by intro w'; go_simp; with_reducible rfl⟩) (by simp only [Act.put, sa_, s0_, s1_, i64_w, i32_w]; rfl) ?_
 refine pu_ 14 (some 40) HT_ rfl rfl (.inl ⟨by rfl, by intro w'; go_simp; with_reducible rfl⟩) (by simp only [Act.put, sa_, s0_, s1_, i64_w, i32_w]; rfl) ?_
 refine pu_ 15 (some 41) HT_ rfl rfl (.inl ⟨by rfl, by intro w'; go_simp; with_reducible rfl⟩) (by simp only [Act.put, sa_, s0_, s1_, i64_w, i32_w]; rfl) ?_
 refine pu_ 16 (some 42) HT_ rfl rfl (.inl ⟨by rfl, by intro w'; go_simp; with_reducible rfl⟩) (by simp only [Act.put, sa_, s0_, s1_, i64_w, i32_w]; rfl) ?_
 refine pu_ 17 (some 43) HT_ rfl rfl (.inl ⟨by rfl, by intro w'; go_simp; with_reducible rfl⟩) (by simp only [Act.put, sa_, s0_, s1_, i64_w, i32_w]; rfl) ?_
 refine pu_ 18 (some 44) HT_ rfl rfl (.inl ⟨by rfl, by intro w'; go_simp; with_reducible rfl⟩) (by simp only [Act.put, sa_, s0_, s1_, i64_w, i32_w]; rfl) ?_
 refine tk_ 19 (some 45) HT_ HW_ rfl rfl (.inl ⟨by rfl, by rintro w' ⟨s0, s1, s2, s3, s4⟩; go_simp; with_reducible rfl⟩) hHeld (by simp only [Act.put, sa_, s0_, s1_, i64_w, i32_w]; rfl) ?_
 refine pu_ 20 (some 46) HT_ rfl rfl (.inl ⟨by rfl, by intro w'; go_simp; with_reducible rfl⟩) (by simp only [Act.put, sa_, s0_, s1_, i64_w, i32_w]; rfl) ?_
 refine pu_ 21 (some 47) HT_ rfl rfl (.inl ⟨by rfl, by intro w'; go_simp; with_reducible rfl⟩) (by simp only [Act.put, sa_, s0_, s1_, i64_w, i32_w]; rfl) ?_
 refine pu_ 22 (some 48) HT_ rfl rfl (.inl ⟨by rfl, by intro w'; go_simp; with_reducible rfl⟩) (by simp only [Act.put, sa_, s0_, s1_, i64_w, i32_w]; rfl) ?_
 refine pu_ 23 (some 49) HT_ rfl rfl (.inl ⟨by rfl, by intro w'; go_simp; with_reducible rfl⟩) (by simp only [Act.put, sa_, s0_, s1_, i64_w, i32_w]; rfl) ?_
 refine pu_ 24 (some 50) HT_ rfl rfl (.inl ⟨by rfl, by intro w'; go_simp; with_reducible rfl⟩) (by simp only [Act.put, sa_, s0_, s1_, i64_w, i32_w]; rfl) ?_
 refine pu_ 25 (some 51) HT_ rfl rfl (.inl ⟨by rfl, by intro w'; go_simp; with_reducible rfl⟩) (by simp only [Act.put, sa_, s0_, s1_, i64_w, i32_w]; rfl) ?_
 refine pu_ 26 (some 52) HT_ rfl rfl (.inl ⟨by rfl, by intro w'; go_simp; with_reducible rfl⟩) (by simp only [Act.put, sa_, s0_, s1_, i64_w, i32_w]; rfl) ?_
 refine tk_ 27 (some 53) HT_ HW_ rfl rfl (.inl ⟨by rfl, by rintro w' ⟨s0, s1, s2, s3, s4⟩; go_simp; with_reducible rfl⟩) hHeld (by simp only [Act.put, sa_, s0_, s1_, i64_w, i32_w]; rfl) ?_
 refine pu_ 28 (some 54) HT_ rfl rfl (.inl ⟨by rfl, by intro w'; go_simp; with_reducible rfl⟩) (by simp only [Act.put, sa_, s0_, s1_, i64_w, i32_w]; rfl) ?_
 refine pu_ 29 (some 55) HT_ rfl rfl (.inl ⟨by rfl, by intro w'; go_simp; with_reducible rfl⟩) (by simp only [Act.put, sa_, s0_, s1_, i64_w, i32_w]; rfl) ?_
 refine tk_ 30 (some 56) HT_ HW_ rfl rfl (.inl ⟨by rfl, by rintro w' ⟨s0, s1, s2, s3, s4⟩; go_simp; with_reducible rfl⟩) hHeld (by simp only [Act.put, sa_, s0_, s1_, i64_w, i32_w]; rfl) ?_
 refine on_ 31 (some 57) HT_ rfl rfl (fun K hK => ?_)
 refine goes_ Try.func58 (by kernel_rfl) rfl #[.agg #[.slice A0 su.length c0, .slice A1 so.length c1, .int .i64 n1, .int .i64 n2, .int .i64 n3]] (by rfl) rfl rfl (by (try simp only [List.map_toArray, List.map_cons, List.map_nil]) <;> rfl) ?_
 refine (r58 _ XO.out).mono ?_
 rintro e W5 ⟨rfl, hb⟩
 refine ⟨_, rfl, ?_⟩
 have m0_ := am (below_step XO.out hb); have m1_ := am (blk_same XX.out hb); clear XO XX hb; have XO := m0_; have XX := m1_; clear m0_ m1_
 refine hK.out _ _ (bc5 XX) (fun hHeld => ?_)
 clear hK K
 refine norm_ (by show Act.put _ (some 57) _ = _; simp only [Act.put, sa_, s0_, s1_, i64_w, i32_w]; rfl) ?_
 refine pu_ 32 (some 58) HT_ rfl rfl (.inl ⟨by rfl, by intro w'; go_simp; with_reducible rfl⟩) (by simp only [Act.put, sa_, s0_, s1_, i64_w, i32_w]; rfl) ?_
 refine pu_ 33 (some 59) HT_ rfl rfl (.inl ⟨by rfl, by intro w'; go_simp; with_reducible rfl⟩) (by simp only [Act.put, sa_, s0_, s1_, i64_w, i32_w]; rfl) ?_
 refine pu_ 34 (some 60) HT_ rfl rfl (.inl ⟨by rfl, by intro w'; go_simp; with_reducible rfl⟩) (by simp only [Act.put, sa_, s0_, s1_, i64_w, i32_w]; rfl) ?_
 refine pu_ 35 (some 61) HT_ rfl rfl (.inl ⟨by rfl, by intro w'; go_simp; with_reducible rfl⟩) (by simp only [Act.put, sa_, s0_, s1_, i64_w, i32_w]; rfl) ?_
 refine pu_ 36 (some 62) HT_ rfl rfl (.inl ⟨by rfl, by intro w'; go_simp; with_reducible rfl⟩) (by simp only [Act.put, sa_, s0_, s1_, i64_w, i32_w]; rfl) ?_
 refine tk_ 37 (some 63) HT_ HW_ rfl rfl (.inl ⟨by rfl, by rintro w' ⟨s0, s1, s2, s3, s4⟩; go_simp; with_reducible rfl⟩) hHeld (by simp only [Act.put, sa_, s0_, s1_, i64_w, i32_w]; rfl) ?_
 refine pu_ 39 (some 65) HT_ rfl rfl (.inl ⟨by rfl, by intro w'; go_simp; with_reducible rfl⟩) (by simp only [Act.put, sa_, s0_, s1_, i64_w, i32_w]; rfl) ?_
 refine on_ 38 (some 64) HT_ rfl rfl (fun K hK => ?_)
 refine goes_ Try.func56 (by kernel_rfl) rfl #[.agg #[.slice A0 su.length c0, .slice A1 so.length c1, .int .i64 n1, .int .i64 n2, .int .i64 n3]] (by rfl) rfl rfl (by (try simp only [List.map_toArray, List.map_cons, List.map_nil]) <;> rfl) ?_
 refine (r56 _ XO.out).mono ?_
 rintro e W5 ⟨rfl, hb⟩
 refine ⟨_, rfl, ?_⟩
 have m0_ := am (below_step XO.out hb); have m1_ := am (blk_same XX.out hb); clear XO XX hb; have XO := m0_; have XX := m1_; clear m0_ m1_
 refine hK.out _ _ (bc5 XX) (fun hHeld => ?_)
 clear hK K
 refine norm_ (by show Act.put _ (some 64) _ = _; simp only [Act.put, sa_, s0_, s1_, i64_w, i32_w]; rfl) ?_
 refine pu_ 40 (some 66) HT_ rfl rfl (.inl ⟨by rfl, by intro w'; go_simp; with_reducible rfl⟩) (by simp only [Act.put, sa_, s0_, s1_, i64_w, i32_w]; rfl) ?_
 refine pu_ 41 (some 67) HT_ rfl rfl (.inl ⟨by rfl, by intro w'; go_simp; with_reducible rfl⟩) (by simp only [Act.put, sa_, s0_, s1_, i64_w, i32_w]; rfl) ?_
 refine pu_ 42 (some 4) HT_ rfl rfl (.inl ⟨by rfl, by intro w'; go_simp; with_reducible rfl⟩) (by simp only [Act.put, sa_, s0_, s1_, i64_w, i32_w]; rfl) ?_
 refine done_ (done_of HT_.out (by kernel_rfl)) ?_
 go_wp2
 go_ret
 exact ⟨by simp [*], XX.out, XB0.out.trans (XO.out.mono XB0.out.size), fun g' o hne hg => blk_same (XK.out g' o hne hg) XO.out⟩
end Go.Proofs.Ytcfinlmocgbnbaa.Pr
end
section
namespace Go.Proofs.Ytcfinlmocgbnbaa.Pr
open Go.Proofs.Ytcfinlmocgbnbaa.Sq Go.RowKit Go.Shelf Go.Proofs.Ytcfinlmocgbnbaa.XB Go.Proofs.YtcfinlmocgbnbaaW.PrintWords Go.Proofs.YtcfinlmocgbnbaaW.PrintLast Go.Proofs.YtcfinlmocgbnbaaW.PrintMore
set_option linter.unusedVariables false
set_option linter.unusedSimpArgs false
set_option maxRecDepth 100000
def regionAt : Code → Nat → Option Code
  | .region id ops m, k => if id == k then some (.region id ops m) else none
  | .seq a b, k => match regionAt a k with
    | some o => some o
    | none => regionAt b k
  | .cond _ a b, k => match regionAt a k with
    | some o => some o
    | none => regionAt b k
  | .block _ c, k => regionAt c k
  | .loop c, k => regionAt c k
  | .scope c, k => regionAt c k
  | _, _ => none
def vr4.T4 : Bool × List (List Nat × List Nat) := (true, [([], []), ([0], [0]), ([], []), ([2], [2]), ([], []), ([], []), ([4, 1, 0, 1, 4, 5], [1, 4]), ([5, 3, 6, 0, 1, 2, 3, 4, 5, 6], [3, 5])])
def vr4.B4 : List Nat := [0, 1, 0, 4, 0, 0, 51, 127]
theorem vr4.tab4 : rtab .any (opsOf Try.f36 4) = vr4.T4 := by kernel_rfl
theorem vr4.bits4 : waitsOk vr4.T4.2 vr4.B4 = true := by kernel_rfl
noncomputable def vr4code : Code := ((Try.f36.body.bind fun c => regionAt c 4)).getD .skip
set_option maxHeartbeats 8000000 in
theorem vr4_r {Q : Exit → Act → World → Prop} (gv : Nat) {su : List ByteArray} {so : List S24} {A0 A1 : Option Addr} {c0 c1 : Nat} {sq hf ln : Int} (w : World) (hp : ∀ c a (m : Nat) v w, Q (.panic c) (a.put (some m) v) w → Q (.panic c) a w)
    (hv : w.heap[gv]? = some (.cells #[.slice A0 su.length c0, .slice A1 so.length c1, .int .i64 sq, .int .i64 hf, .int .i64 ln] 56 (0, 0)))
    {p0 p2 p3 p6 p7 p8 p9 p10 p11 p12 p13 p14 p15 p16 p17 p18 p19 p20 p21 p22 p23 p24 p29 p30 p31 p32 p33 p34 p35 p36 p37 p38 p39 p40 p41 p42 p43 p44 p45 p46 p47 p48 p49 p50 p51 p52 p53 p54 p55 p56 p57 p58 p59 p60 p61 p62 p63 p64 p65 p66 p67 p68 p69 p70 p71 p72 p73 p74 p75 p76 p77 : Value} {u4 u5 u25 u26 u27 u28 : Value}
    (hQ : ∀ (g4 g5 : Nat) (v25 v26 v27 v28 : Value) (W' : World), g4 ≠ g5 → w.heap.size ≤ g4 → w.heap.size ≤ g5 → Below w.heap.size w W' → W'.heap[g4]? = some (.cells #[.slice A0 su.length c0, .slice A1 so.length c1, .int .i64 sq, .int .i64 hf, .int .i64 ln] 89 (0, 0)) → W'.heap[g5]? = some (.cells #[.slice A0 su.length c0, .slice A1 so.length c1, .int .i64 sq, .int .i64 hf, .int .i64 ln] 89 (0, 0)) → Q .normal ⟨#[p0, .pointer (some ⟨gv, 0, none⟩), p2, p3, .pointer (some ⟨g4, 0, none⟩), .pointer (some ⟨g5, 0, none⟩), p6, p7, p8, p9, p10, p11, p12, p13, p14, p15, p16, p17, p18, p19, p20, p21, p22, p23, p24, v25, v26, v27, v28, p29, p30, p31, p32, p33, p34, p35, p36, p37, p38, p39, p40, p41, p42, p43, p44, p45, p46, p47, p48, p49, p50, p51, p52, p53, p54, p55, p56, p57, p58, p59, p60, p61, p62, p63, p64, p65, p66, p67, p68, p69, p70, p71, p72, p73, p74, p75, p76, p77], []⟩ W') :
    Code.wp Try.prog vr4code Q ⟨#[p0, .pointer (some ⟨gv, 0, none⟩), p2, p3, u4, u5, p6, p7, p8, p9, p10, p11, p12, p13, p14, p15, p16, p17, p18, p19, p20, p21, p22, p23, p24, u25, u26, u27, u28, p29, p30, p31, p32, p33, p34, p35, p36, p37, p38, p39, p40, p41, p42, p43, p44, p45, p46, p47, p48, p49, p50, p51, p52, p53, p54, p55, p56, p57, p58, p59, p60, p61, p62, p63, p64, p65, p66, p67, p68, p69, p70, p71, p72, p73, p74, p75, p76, p77], []⟩ w := by
 conv => arg 2; whnf
 have HO := am (below_drew1 (Below.refl w.heap.size w))
 have BB := am (Go.Proofs.YtcfinlmocgbnbaaW.PrintWords.bkD hv)
 have l0 : w.heap.size ≤ w.drew.heap.size := HO.out.size
 have lv : gv < w.heap.size := Go.Proofs.YtcfinlmocgbnbaaW.PrintWords.blk_lt hv
 clear hv
 refine start_ (n := 8) (S := fun w' => w'.cell? ⟨gv, 0, none⟩ = some (.slice A0 su.length c0) ∧ w'.cell? ⟨gv, 1, none⟩ = some (.slice A1 so.length c1) ∧ w'.cell? ⟨gv, 2, none⟩ = some (.int .i64 sq) ∧ w'.cell? ⟨gv, 3, none⟩ = some (.int .i64 hf) ∧ w'.cell? ⟨gv, 4, none⟩ = some (.int .i64 ln)) (ds := []) #[false, false, false, false, false, false, false, false] (by kernel_rfl) rfl rfl (bc5 BB) (fun hHeld => ?_); refine with_tabW vr4.tab4 vr4.bits4 (fun HT_ HW_ => ?_)
 generalize w.drew = w0 at HO BB hHeld l0 ⊢
 refine tk_ 0 (some 25) HT_ HW_ rfl rfl (.inl ⟨by rfl, by rintro w' ⟨s0, s1, s2, s3, s4⟩; go_simp; with_reducible rfl⟩) hHeld (by simp only [Act.put, sa_, s0_, s1_, i64_w, i32_w]; rfl) ?_ (by kernel_rfl) (fun c a w h => hp c a _ _ w h)
 refine tk_ 2 (some 27) HT_ HW_ rfl rfl (.inl ⟨by rfl, by rintro w' ⟨s0, s1, s2, s3, s4⟩; go_simp; with_reducible rfl⟩) hHeld (by simp only [Act.put, sa_, s0_, s1_, i64_w, i32_w]; rfl) ?_ (by kernel_rfl) (fun c a w h => hp c a _ _ w h)
 refine pu_ 1 (some 26) HT_ rfl rfl (.inl ⟨by rfl, by intro w'; go_simp; with_reducible rfl⟩) (by simp only [Act.put, sa_, s0_, s1_, i64_w, i32_w]; rfl) ?_ (by kernel_rfl) (fun c a w h => hp c a _ _ w h)
 refine pu_ 3 (some 28) HT_ rfl rfl (.inl ⟨by rfl, by intro w'; go_simp; with_reducible rfl⟩) (by simp only [Act.put, sa_, s0_, s1_, i64_w, i32_w]; rfl) ?_ (by kernel_rfl) (fun c a w h => hp c a _ _ w h)
 refine two_ (i := 4) (j := 5) (Ni := some 4) (Nj := some 5) #[true, true, true, true, true, false, false, false] #[true, true, true, true, false, true, false, false] rfl rfl rfl rfl (two_of HT_.out (by kernel_rfl)) (by decide) (by decide) (fun K hK => ?_) (fun K hK => ?_)
 ·skip
  refine box_step ?hg (N := 4) ?hd (cs := #[.slice none 0 0, .slice none 0 0, .int .i64 0, .int .i64 0, .int .i64 0]) (t := 89) ?hr ?_; (case hd => rfl); (case hg => rfl); (case hr => first | (go_simp; done) | (go_simp; rfl))
  intro g4 eg4 Wg4 Bg4 hb
  have m0_ := am (below_step HO.out hb); have m1_ := am (blk_same BB.out hb); have ha := am Bg4; clear HO BB hb Bg4; have HO := m0_; have BB := m1_; clear m0_ m1_; have l4 : w.heap.size ≤ g4 := (by subst eg4; exact l0); have n4 : gv ≠ g4 := by omega
  clear eg4
  have lw : w.heap.size ≤ Wg4.heap.size := HO.out.size
  refine hK.out _ _ (bc5 BB) (fun hHeld => ?_)
  clear hK K
  refine norm_ (by show Act.put _ (some 4) _ = _; simp only [Act.put, sa_, s0_, s1_, i64_w, i32_w]; rfl) ?_
  refine on_ 5 (some 5) HT_ rfl rfl (fun K hK => ?_)
  refine box_step ?hg (N := 5) ?hd (cs := #[.slice none 0 0, .slice none 0 0, .int .i64 0, .int .i64 0, .int .i64 0]) (t := 89) ?hr ?_; (case hd => rfl); (case hg => rfl); (case hr => first | (go_simp; done) | (go_simp; rfl))
  intro g5 eg5 Wg5 Bg5 hb
  have hne : g4 ≠ g5 := by have := Go.Proofs.YtcfinlmocgbnbaaW.PrintWords.blk_lt ha.out; omega
  have m0_ := am (below_step HO.out hb); have m1_ := am (blk_same BB.out hb); have m2_ := am (blk_same ha.out hb); have hb2 := am Bg5; clear HO BB ha hb Bg5; have HO := m0_; have BB := m1_; have ha := m2_; clear m0_ m1_ m2_; have l5 : w.heap.size ≤ g5 := (by subst eg5; exact lw); have n5 : gv ≠ g5 := by omega
  clear eg5 lw
  refine hK.out _ _ (bc5 BB) (fun hHeld => ?_)
  clear hK K
  refine norm_ (by show Act.put _ (some 5) _ = _; simp only [Act.put, sa_, s0_, s1_, i64_w, i32_w]; rfl) ?_
  refine on_ 6 none HT_ rfl rfl (fun K hK => ?_)
  have hc0 := (blk_cell (ha.out) 0).trans rfl; have hf0 := blk_frozen (ha.out) 0
  have hc1 := (blk_cell (ha.out) 1).trans rfl; have hf1 := blk_frozen (ha.out) 1
  have hc2 := (blk_cell (ha.out) 2).trans rfl; have hf2 := blk_frozen (ha.out) 2
  have hc3 := (blk_cell (ha.out) 3).trans rfl; have hf3 := blk_frozen (ha.out) 3
  have hc4 := (blk_cell (ha.out) 4).trans rfl; have hf4 := blk_frozen (ha.out) 4
  refine skip_ (by rfl) rfl (by go_simp; rfl) ?_
  have b6 : (((((Wg5.setCell ⟨g4, 0, none⟩ (.slice A0 su.length c0)).setCell ⟨g4, 1, none⟩ (.slice A1 so.length c1)).setCell ⟨g4, 2, none⟩ (.int .i64 sq)).setCell ⟨g4, 3, none⟩ (.int .i64 hf)).setCell ⟨g4, 4, none⟩ (.int .i64 ln)).heap[gv]? = some (.cells #[.slice A0 su.length c0, .slice A1 so.length c1, .int .i64 sq, .int .i64 hf, .int .i64 ln] 56 (0, 0)) := br5 BB.out (am n4)
  have k4 : (((((Wg5.setCell ⟨g4, 0, none⟩ (.slice A0 su.length c0)).setCell ⟨g4, 1, none⟩ (.slice A1 so.length c1)).setCell ⟨g4, 2, none⟩ (.int .i64 sq)).setCell ⟨g4, 3, none⟩ (.int .i64 hf)).setCell ⟨g4, 4, none⟩ (.int .i64 ln)).heap[g4]? = some (.cells #[.slice A0 su.length c0, .slice A1 so.length c1, .int .i64 sq, .int .i64 hf, .int .i64 ln] 89 (0, 0)) := bp5 ha.out
  have k5 : (((((Wg5.setCell ⟨g4, 0, none⟩ (.slice A0 su.length c0)).setCell ⟨g4, 1, none⟩ (.slice A1 so.length c1)).setCell ⟨g4, 2, none⟩ (.int .i64 sq)).setCell ⟨g4, 3, none⟩ (.int .i64 hf)).setCell ⟨g4, 4, none⟩ (.int .i64 ln)).heap[g5]? = some (.cells #[.slice none 0 0, .slice none 0 0, .int .i64 0, .int .i64 0, .int .i64 0] 89 (0, 0)) := br5 hb2.out (am (Ne.symm hne))
  clear hc0 hc1 hc2 hc3 hc4 hf0 hf1 hf2 hf3 hf4
  refine hK.out _ _ (bc5 (am b6)) (fun hHeld => ?_)
  clear hK K
  refine on_ 7 none HT_ rfl rfl (fun K hK => ?_)
  have hc0 := (blk_cell (k5) 0).trans rfl; have hf0 := blk_frozen (k5) 0
  have hc1 := (blk_cell (k5) 1).trans rfl; have hf1 := blk_frozen (k5) 1
  have hc2 := (blk_cell (k5) 2).trans rfl; have hf2 := blk_frozen (k5) 2
  have hc3 := (blk_cell (k5) 3).trans rfl; have hf3 := blk_frozen (k5) 3
  have hc4 := (blk_cell (k5) 4).trans rfl; have hf4 := blk_frozen (k5) 4
  refine skip_ (by rfl) rfl (by go_simp; rfl) ?_
  have b7 : ((((((((((Wg5.setCell ⟨g4, 0, none⟩ (.slice A0 su.length c0)).setCell ⟨g4, 1, none⟩ (.slice A1 so.length c1)).setCell ⟨g4, 2, none⟩ (.int .i64 sq)).setCell ⟨g4, 3, none⟩ (.int .i64 hf)).setCell ⟨g4, 4, none⟩ (.int .i64 ln)).setCell ⟨g5, 0, none⟩ (.slice A0 su.length c0)).setCell ⟨g5, 1, none⟩ (.slice A1 so.length c1)).setCell ⟨g5, 2, none⟩ (.int .i64 sq)).setCell ⟨g5, 3, none⟩ (.int .i64 hf)).setCell ⟨g5, 4, none⟩ (.int .i64 ln)).heap[gv]? = some (.cells #[.slice A0 su.length c0, .slice A1 so.length c1, .int .i64 sq, .int .i64 hf, .int .i64 ln] 56 (0, 0)) := br5 b6 (am n5)
  clear hc0 hc1 hc2 hc3 hc4 hf0 hf1 hf2 hf3 hf4
  refine hK.out _ _ (bc5 (am b7)) (fun hHeld => ?_)
  clear hK K
  refine done_ (done_of HT_.out (by kernel_rfl)) ?_
  exact hQ g4 g5 _ _ _ _ _ hne l4 l5 (below_set (below_set (below_set (below_set (below_set (below_set (below_set (below_set (below_set (below_set HO.out l4) l4) l4) l4) l4) l5) l5) l5) l5) l5) (br5 k4 (am hne)) (bp5 k5)
 ·skip
  refine box_step ?hg (N := 5) ?hd (cs := #[.slice none 0 0, .slice none 0 0, .int .i64 0, .int .i64 0, .int .i64 0]) (t := 89) ?hr ?_; (case hd => rfl); (case hg => rfl); (case hr => first | (go_simp; done) | (go_simp; rfl))
  intro g5 eg5 Wg5 Bg5 hb
  have m0_ := am (below_step HO.out hb); have m1_ := am (blk_same BB.out hb); have ha := am Bg5; clear HO BB hb Bg5; have HO := m0_; have BB := m1_; clear m0_ m1_; have l5 : w.heap.size ≤ g5 := (by subst eg5; exact l0); have n5 : gv ≠ g5 := by omega
  clear eg5
  have lw : w.heap.size ≤ Wg5.heap.size := HO.out.size
  refine hK.out _ _ (bc5 BB) (fun hHeld => ?_)
  clear hK K
  refine norm_ (by show Act.put _ (some 5) _ = _; simp only [Act.put, sa_, s0_, s1_, i64_w, i32_w]; rfl) ?_
  refine on_ 4 (some 4) HT_ rfl rfl (fun K hK => ?_)
  refine box_step ?hg (N := 4) ?hd (cs := #[.slice none 0 0, .slice none 0 0, .int .i64 0, .int .i64 0, .int .i64 0]) (t := 89) ?hr ?_; (case hd => rfl); (case hg => rfl); (case hr => first | (go_simp; done) | (go_simp; rfl))
  intro g4 eg4 Wg4 Bg4 hb
  have hne : g4 ≠ g5 := by have := Go.Proofs.YtcfinlmocgbnbaaW.PrintWords.blk_lt ha.out; omega
  have m0_ := am (below_step HO.out hb); have m1_ := am (blk_same BB.out hb); have m2_ := am (blk_same ha.out hb); have hb2 := am Bg4; clear HO BB ha hb Bg4; have HO := m0_; have BB := m1_; have ha := m2_; clear m0_ m1_ m2_; have l4 : w.heap.size ≤ g4 := (by subst eg4; exact lw); have n4 : gv ≠ g4 := by omega
  clear eg4 lw
  refine hK.out _ _ (bc5 BB) (fun hHeld => ?_)
  clear hK K
  refine norm_ (by show Act.put _ (some 4) _ = _; simp only [Act.put, sa_, s0_, s1_, i64_w, i32_w]; rfl) ?_
  refine on_ 6 none HT_ rfl rfl (fun K hK => ?_)
  have hc0 := (blk_cell (hb2.out) 0).trans rfl; have hf0 := blk_frozen (hb2.out) 0
  have hc1 := (blk_cell (hb2.out) 1).trans rfl; have hf1 := blk_frozen (hb2.out) 1
  have hc2 := (blk_cell (hb2.out) 2).trans rfl; have hf2 := blk_frozen (hb2.out) 2
  have hc3 := (blk_cell (hb2.out) 3).trans rfl; have hf3 := blk_frozen (hb2.out) 3
  have hc4 := (blk_cell (hb2.out) 4).trans rfl; have hf4 := blk_frozen (hb2.out) 4
  refine skip_ (by rfl) rfl (by go_simp; rfl) ?_
  have b6 : (((((Wg4.setCell ⟨g4, 0, none⟩ (.slice A0 su.length c0)).setCell ⟨g4, 1, none⟩ (.slice A1 so.length c1)).setCell ⟨g4, 2, none⟩ (.int .i64 sq)).setCell ⟨g4, 3, none⟩ (.int .i64 hf)).setCell ⟨g4, 4, none⟩ (.int .i64 ln)).heap[gv]? = some (.cells #[.slice A0 su.length c0, .slice A1 so.length c1, .int .i64 sq, .int .i64 hf, .int .i64 ln] 56 (0, 0)) := br5 BB.out (am n4)
  have k4 : (((((Wg4.setCell ⟨g4, 0, none⟩ (.slice A0 su.length c0)).setCell ⟨g4, 1, none⟩ (.slice A1 so.length c1)).setCell ⟨g4, 2, none⟩ (.int .i64 sq)).setCell ⟨g4, 3, none⟩ (.int .i64 hf)).setCell ⟨g4, 4, none⟩ (.int .i64 ln)).heap[g4]? = some (.cells #[.slice A0 su.length c0, .slice A1 so.length c1, .int .i64 sq, .int .i64 hf, .int .i64 ln] 89 (0, 0)) := bp5 hb2.out
  have k5 : (((((Wg4.setCell ⟨g4, 0, none⟩ (.slice A0 su.length c0)).setCell ⟨g4, 1, none⟩ (.slice A1 so.length c1)).setCell ⟨g4, 2, none⟩ (.int .i64 sq)).setCell ⟨g4, 3, none⟩ (.int .i64 hf)).setCell ⟨g4, 4, none⟩ (.int .i64 ln)).heap[g5]? = some (.cells #[.slice none 0 0, .slice none 0 0, .int .i64 0, .int .i64 0, .int .i64 0] 89 (0, 0)) := br5 ha.out (am (Ne.symm hne))
  clear hc0 hc1 hc2 hc3 hc4 hf0 hf1 hf2 hf3 hf4
  refine hK.out _ _ (bc5 (am b6)) (fun hHeld => ?_)
  clear hK K
  refine on_ 7 none HT_ rfl rfl (fun K hK => ?_)
  have hc0 := (blk_cell (k5) 0).trans rfl; have hf0 := blk_frozen (k5) 0
  have hc1 := (blk_cell (k5) 1).trans rfl; have hf1 := blk_frozen (k5) 1
  have hc2 := (blk_cell (k5) 2).trans rfl; have hf2 := blk_frozen (k5) 2
  have hc3 := (blk_cell (k5) 3).trans rfl; have hf3 := blk_frozen (k5) 3
  have hc4 := (blk_cell (k5) 4).trans rfl; have hf4 := blk_frozen (k5) 4
  refine skip_ (by rfl) rfl (by go_simp; rfl) ?_
  have b7 : ((((((((((Wg4.setCell ⟨g4, 0, none⟩ (.slice A0 su.length c0)).setCell ⟨g4, 1, none⟩ (.slice A1 so.length c1)).setCell ⟨g4, 2, none⟩ (.int .i64 sq)).setCell ⟨g4, 3, none⟩ (.int .i64 hf)).setCell ⟨g4, 4, none⟩ (.int .i64 ln)).setCell ⟨g5, 0, none⟩ (.slice A0 su.length c0)).setCell ⟨g5, 1, none⟩ (.slice A1 so.length c1)).setCell ⟨g5, 2, none⟩ (.int .i64 sq)).setCell ⟨g5, 3, none⟩ (.int .i64 hf)).setCell ⟨g5, 4, none⟩ (.int .i64 ln)).heap[gv]? = some (.cells #[.slice A0 su.length c0, .slice A1 so.length c1, .int .i64 sq, .int .i64 hf, .int .i64 ln] 56 (0, 0)) := br5 b6 (am n5)
  clear hc0 hc1 hc2 hc3 hc4 hf0 hf1 hf2 hf3 hf4
  refine hK.out _ _ (bc5 (am b7)) (fun hHeld => ?_)
  clear hK K
  refine done_ (done_of HT_.out (by kernel_rfl)) ?_
  exact hQ g4 g5 _ _ _ _ _ hne l4 l5 (below_set (below_set (below_set (below_set (below_set (below_set (below_set (below_set (below_set (below_set HO.out l4) l4) l4) l4) l4) l5) l5) l5) l5) l5) (br5 k4 (am hne)) (bp5 k5)
end Go.Proofs.Ytcfinlmocgbnbaa.Pr
end
section
namespace Go.Proofs.Ytcfinlmocgbnbaa.Pr
open Go.RowKit Go.Shelf Go.Proofs.Ytcfinlmocgbnbaa.XB Go.Proofs.YtcfinlmocgbnbaaW.PrintWords
attribute [local go_sem] Oper.semAt_some
set_option linter.unusedVariables false
set_option linter.unusedSimpArgs false
set_option maxRecDepth 100000
set_option maxHeartbeats 8000000 in
theorem vright_true (k : Nat) {su : List ByteArray} {A0 A1 : Option Addr} {c0 c1 : Nat} {sq hf ln m1 m2 m3 rm0 rm1 at_ : Int} {s0 s1 hd0 hd1 : ByteArray} (w : World)
    (hsu : Kd.C Kd.string w A0 su.length su) (hc0 : su.length ≤ c0) (hso : Kd.C k24 w A1 0 ([] : List S24)) (hmay : vault_may.f su [] = some true) (hq0 : 0 ≤ sq) (hlen : 2 ≤ su.length)
    (hat : Int.tmod sq 2 = at_) (hat0 : 0 ≤ at_) (hat1 : at_ ≤ 1) (hs0 : rdOf ByteArray.empty su at_ = s0) (hs1 : rdOf ByteArray.empty su (1 - at_) = s1) (z0 : 16 ≤ s0.size) (z1 : 16 ≤ s1.size)
    (h1 : vault_take_int.f (s0.extract 0 8) = some sq) (h2 : vault_take_int.f (s0.extract 8 12) = some hf) (h3 : vault_take_int.f (s0.extract 12 16) = some ln) (hrm : vault_book_room.f su [] sq hf ln = some rm0) (hhd : vault_book_head.f k su [] sq hf ln = some hd0)
    (g1 : vault_take_int.f (s1.extract 0 8) = some m1) (g2 : vault_take_int.f (s1.extract 8 12) = some m2) (g3 : vault_take_int.f (s1.extract 12 16) = some m3) (grm : vault_book_room.f su [] m1 m2 m3 = some rm1) (ghd : vault_book_head.f k su [] m1 m2 m3 = some hd1) (hm0 : 0 ≤ m1)
    (hok : (decide (sq ≤ 1099511627776) && decide (hf < 2) && decide (ln ≤ rm0) && decide (hd0.toList = s0.toList)) = true) (ov : Bool) (hov : (decide (m1 ≤ 1099511627776) && decide (m2 < 2) && decide (m3 ≤ rm1) && decide (hd1.toList = s1.toList)) = ov) (hless : ov = true → m1 < sq) :
    Calls Try.prog 36 #[.agg #[.slice A0 su.length c0, .slice A1 0 c1, .int .i64 sq, .int .i64 hf, .int .i64 ln]] w fun e w' => e = .returned (.bool true) ∧ Below w.heap.size w w' := by
  obtain ⟨ad, rfl, r0⟩ := Kd.at_string hsu at_ hat0 (by omega)
  obtain ⟨ad2, e2, r1⟩ := Kd.at_string hsu (1 - at_) (by omega) (by omega)
  obtain rfl := Option.some.inj e2
  rw [hs0] at r0
  rw [hs1] at r1
  have R0 := Lib.hid (fun W (h : Below w.heap.size w W) => (h.cell (World.block_lt_of_cell? _ _ r0)).trans r0)
  have R1 := Lib.hid (fun W (h : Below w.heap.size w W) => (h.cell (World.block_lt_of_cell? _ _ r1)).trans r1)
  have HM := Lib.hid (show ∀ W, Below w.heap.size w W → Calls Try.prog 54 #[.agg #[.slice (some ad) su.length c0, .slice A1 0 c1]] W fun e w' => e = .returned (.bool true) ∧ Below W.heap.size W w' from fun W h => vault_may.calls _ _ su _ c1 [] true W (Kd.C_below hsu h) hc0 (Kd.C_below hso h) (Nat.zero_le _) hmay)
  have HR := Lib.hid (show ∀ W g, Below w.heap.size w W → w.heap.size ≤ g → W.heap[g]? = some (.cells #[.slice (some ad) su.length c0, .slice A1 0 c1, .int .i64 sq, .int .i64 hf, .int .i64 ln] 89 (0, 0)) → Calls Try.prog 60 #[.pointer (some ⟨g, 0, none⟩), .string s0] W fun e w' => e = .returned (.bool true) ∧ w'.heap[g]? = some (.cells #[.slice (some ad) su.length c0, .slice A1 0 c1, .int .i64 sq, .int .i64 hf, .int .i64 ln] 89 (0, 0)) ∧ Below w.heap.size w w' ∧ (∀ g' o, g' ≠ g → W.heap[g']? = some o → w'.heap[g']? = some o) from fun W g hb hg hbb => by
    have h9 := vault_read_calls k g (so := []) (A1 := A1) (c1 := c1) w W hb hg hbb hsu hc0 hso (Nat.zero_le _) z0 h1 h2 h3 hrm hhd hq0
    rw [hok] at h9
    exact h9)
  have HS := Lib.hid (show ∀ W g, Below w.heap.size w W → w.heap.size ≤ g → W.heap[g]? = some (.cells #[.slice (some ad) su.length c0, .slice A1 0 c1, .int .i64 sq, .int .i64 hf, .int .i64 ln] 89 (0, 0)) → Calls Try.prog 60 #[.pointer (some ⟨g, 0, none⟩), .string s1] W fun e w' => e = .returned (.bool ov) ∧ w'.heap[g]? = some (.cells #[.slice (some ad) su.length c0, .slice A1 0 c1, .int .i64 m1, .int .i64 m2, .int .i64 m3] 89 (0, 0)) ∧ Below w.heap.size w w' ∧ (∀ g' o, g' ≠ g → W.heap[g']? = some o → w'.heap[g']? = some o) from fun W g hb hg hbb => by
    have h9 := vault_read_calls k g (so := []) (A1 := A1) (c1 := c1) w W hb hg hbb hsu hc0 hso (Nat.zero_le _) z1 g1 g2 g3 grm ghd hm0
    rw [hov] at h9
    exact h9)
  clear hok hov r0 r1 hsu hso hs0 hs1 z0 z1 h1 h2 h3 hrm hhd g1 g2 g3 grm ghd hmay
  have hq1 : ¬ sq < 0 := by omega
  go_enter Try.func36, Try.ntmps36
  go_wp2_with (first
    | (go_at_call 54; with_reducible refine (HM.out _ (below_alloc (Below.refl _ _) _)).mono ?_; rintro e W1 ⟨rfl, hb⟩; have BV := Lib.hid (blk_same (heap_alloc_new w (.cells #[.slice (some ad) su.length c0, .slice A1 0 c1, .int .i64 sq, .int .i64 hf, .int .i64 ln] 56)) hb); have W1B := Lib.hid (below_step (below_alloc (Below.refl w.heap.size w) (.cells #[.slice (some ad) su.length c0, .slice A1 0 c1, .int .i64 sq, .int .i64 hf, .int .i64 ln] 56)) hb); have bv_0 := (blk_cell BV.out 0).trans rfl; have bv_1 := (blk_cell BV.out 1).trans rfl; have bv_2 := (blk_cell BV.out 2).trans rfl; have bv_3 := (blk_cell BV.out 3).trans rfl; have bv_4 := (blk_cell BV.out 4).trans rfl; clear hb))
  refine vr4_r (so := ([] : List S24)) w.heap.size _ (by exact fun c a m v w h => h) BV.out ?_
  intro g4 g5 v25 v26 v27 v28 W2 hne hg4 hg5 hb2 b4 b5
  have hlt := Go.Proofs.YtcfinlmocgbnbaaW.PrintWords.blk_lt BV.out
  have hs1 := W1B.out.size
  have HW2 := Lib.hid (W1B.out.trans (hb2.mono W1B.out.size))
  have B4 := Lib.hid (show W2.heap[g4]? = some (.cells #[.slice (some ad) su.length c0, .slice A1 0 c1, .int .i64 sq, .int .i64 hf, .int .i64 ln] 89 (0, 0)) from b4)
  have B5 := Lib.hid (show W2.heap[g5]? = some (.cells #[.slice (some ad) su.length c0, .slice A1 0 c1, .int .i64 sq, .int .i64 hf, .int .i64 ln] 89 (0, 0)) from b5)
  have BV2 := Lib.hid (blk_same BV.out hb2)
  have l4 : w.heap.size ≤ g4 := by omega
  have l5 : w.heap.size ≤ g5 := by omega
  have n4 : w.heap.size ≠ g4 := by omega
  have n5 : w.heap.size ≠ g5 := by omega
  have nf : g5 ≠ g4 := fun e => hne e.symm
  clear bv_0 bv_1 bv_2 bv_3 bv_4 BV W1B b4 b5 hb2 hlt hs1 hg4 hg5 HM
  have q0 : at_ < (su.length : Int) := by omega
  have q1 : 0 ≤ 1 - at_ := by omega
  have q2 : 1 - at_ < (su.length : Int) := by omega
  have bv_0 := (blk_cell BV2.out 0).trans rfl
  have bv_1 := (blk_cell BV2.out 1).trans rfl
  have bv_2 := (blk_cell BV2.out 2).trans rfl
  have bv_3 := (blk_cell BV2.out 3).trans rfl
  have bv_4 := (blk_cell BV2.out 4).trans rfl
  have rr := R0.out W2 HW2.out
  cases ov with
  | false =>
    go_wp2_with (first
      | (go_at_call 60; with_reducible refine (HR.out _ _ HW2.out l4 B4.out).mono ?_; rintro e W3 ⟨rfl, k4, hb3, kp⟩; have HW3 := Lib.hid hb3; have B4b := Lib.hid k4; have B5b := Lib.hid (kp g5 _ nf B5.out); have BV3 := Lib.hid (kp _ _ n4 BV2.out); clear k4 hb3 kp rr bv_0 bv_1 bv_2 bv_3 bv_4; have bv_0 := (blk_cell BV3.out 0).trans rfl; have bv_1 := (blk_cell BV3.out 1).trans rfl; have bv_2 := (blk_cell BV3.out 2).trans rfl; have bv_3 := (blk_cell BV3.out 3).trans rfl; have bv_4 := (blk_cell BV3.out 4).trans rfl; have b4_0 := (blk_cell B4b.out 0).trans rfl; have b4_1 := (blk_cell B4b.out 1).trans rfl; have b4_2 := (blk_cell B4b.out 2).trans rfl; have b4_3 := (blk_cell B4b.out 3).trans rfl; have b4_4 := (blk_cell B4b.out 4).trans rfl; have rr := R1.out W3 HW3.out)
      | (go_at_call 60; with_reducible refine (HS.out _ _ HW3.out l5 B5b.out).mono ?_; rintro e W4 ⟨rfl, k5, hb4, kp⟩; have HW4 := Lib.hid hb4; have B5c := Lib.hid k5; have BV4 := Lib.hid (kp _ _ n5 BV3.out); clear k5 hb4 kp rr bv_0 bv_1 bv_2 bv_3 bv_4 b4_0 b4_1 b4_2 b4_3 b4_4; have bv_0 := (blk_cell BV4.out 0).trans rfl; have bv_1 := (blk_cell BV4.out 1).trans rfl; have bv_2 := (blk_cell BV4.out 2).trans rfl; have bv_3 := (blk_cell BV4.out 3).trans rfl; have bv_4 := (blk_cell BV4.out 4).trans rfl; have b5_0 := (blk_cell B5c.out 0).trans rfl; have b5_1 := (blk_cell B5c.out 1).trans rfl; have b5_2 := (blk_cell B5c.out 2).trans rfl; have b5_3 := (blk_cell B5c.out 3).trans rfl; have b5_4 := (blk_cell B5c.out 4).trans rfl))
    go_ret
    exact ⟨rfl, HW4.out⟩
  | true =>
    have hm := hless rfl
    go_wp2_with (first
      | (go_at_call 60; with_reducible refine (HR.out _ _ HW2.out l4 B4.out).mono ?_; rintro e W3 ⟨rfl, k4, hb3, kp⟩; have HW3 := Lib.hid hb3; have B4b := Lib.hid k4; have B5b := Lib.hid (kp g5 _ nf B5.out); have BV3 := Lib.hid (kp _ _ n4 BV2.out); clear k4 hb3 kp rr bv_0 bv_1 bv_2 bv_3 bv_4; have bv_0 := (blk_cell BV3.out 0).trans rfl; have bv_1 := (blk_cell BV3.out 1).trans rfl; have bv_2 := (blk_cell BV3.out 2).trans rfl; have bv_3 := (blk_cell BV3.out 3).trans rfl; have bv_4 := (blk_cell BV3.out 4).trans rfl; have b4_0 := (blk_cell B4b.out 0).trans rfl; have b4_1 := (blk_cell B4b.out 1).trans rfl; have b4_2 := (blk_cell B4b.out 2).trans rfl; have b4_3 := (blk_cell B4b.out 3).trans rfl; have b4_4 := (blk_cell B4b.out 4).trans rfl; have rr := R1.out W3 HW3.out)
      | (go_at_call 60; with_reducible refine (HS.out _ _ HW3.out l5 B5b.out).mono ?_; rintro e W4 ⟨rfl, k5, hb4, kp⟩; have HW4 := Lib.hid hb4; have B5c := Lib.hid k5; have BV4 := Lib.hid (kp _ _ n5 BV3.out); clear k5 hb4 kp rr bv_0 bv_1 bv_2 bv_3 bv_4 b4_0 b4_1 b4_2 b4_3 b4_4; have bv_0 := (blk_cell BV4.out 0).trans rfl; have bv_1 := (blk_cell BV4.out 1).trans rfl; have bv_2 := (blk_cell BV4.out 2).trans rfl; have bv_3 := (blk_cell BV4.out 3).trans rfl; have bv_4 := (blk_cell BV4.out 4).trans rfl; have b5_0 := (blk_cell B5c.out 0).trans rfl; have b5_1 := (blk_cell B5c.out 1).trans rfl; have b5_2 := (blk_cell B5c.out 2).trans rfl; have b5_3 := (blk_cell B5c.out 3).trans rfl; have b5_4 := (blk_cell B5c.out 4).trans rfl))
    go_ret
    exact ⟨rfl, HW4.out⟩
end Go.Proofs.Ytcfinlmocgbnbaa.Pr
end
section
namespace Go.Proofs.Ytcfinlmocgbnbaa.Pr
open Go.RowKit Go.Shelf Go.Proofs.Ytcfinlmocgbnbaa.XB Go.Proofs.YtcfinlmocgbnbaaW.PrintWords
attribute [local go_sem] Oper.semAt_some
set_option linter.unusedVariables false
set_option linter.unusedSimpArgs false
set_option maxRecDepth 100000
set_option maxHeartbeats 8000000 in
theorem vroom_true {su : List ByteArray} {A0 A1 : Option Addr} {c0 c1 : Nat} {sq hf ln rm : Int} (w : World)
    (hsu : Kd.C Kd.string w A0 su.length su) (hc0 : su.length ≤ c0) (hso : Kd.C k24 w A1 0 ([] : List S24))
    (hR : ∀ W, Below w.heap.size w W → Calls Try.prog 36 #[.agg #[.slice A0 su.length c0, .slice A1 0 c1, .int .i64 sq, .int .i64 hf, .int .i64 ln]] W fun e w' => e = .returned (.bool true) ∧ Below W.heap.size W w')
    (hrm : vault_book_room.f su [] sq hf ln = some rm) :
    Calls Try.prog 31 #[.agg #[.slice A0 su.length c0, .slice A1 0 c1, .int .i64 sq, .int .i64 hf, .int .i64 ln]] w fun e w' => e = .returned (.int .i64 rm) ∧ Below w.heap.size w w' := by
  have HR := Lib.hid hR
  have HM := Lib.hid (show ∀ W, Below w.heap.size w W → Calls Try.prog 58 #[.agg #[.slice A0 su.length c0, .slice A1 0 c1, .int .i64 sq, .int .i64 hf, .int .i64 ln]] W fun e w' => e = .returned (.int .i64 rm) ∧ Below W.heap.size W w' from fun W h => vault_book_room.calls _ _ su _ c1 [] sq hf ln rm W (Kd.C_below hsu h) hc0 (Kd.C_below hso h) (Nat.zero_le _) hrm)
  clear hR hsu hc0 hso hrm
  go_enter Try.func31, Try.ntmps31
  go_wp2_with (first
    | (go_at_call 36; with_reducible refine (HR.out _ (below_alloc (Below.refl _ _) _)).mono ?_; rintro e W1 ⟨rfl, hb⟩; have BV := Lib.hid (blk_same (heap_alloc_new w (.cells #[.slice A0 su.length c0, .slice A1 0 c1, .int .i64 sq, .int .i64 hf, .int .i64 ln] 56)) hb); have W1B := Lib.hid (below_step (below_alloc (Below.refl w.heap.size w) (.cells #[.slice A0 su.length c0, .slice A1 0 c1, .int .i64 sq, .int .i64 hf, .int .i64 ln] 56)) hb); have bv_0 := (blk_cell BV.out 0).trans rfl; have bv_1 := (blk_cell BV.out 1).trans rfl; have bv_2 := (blk_cell BV.out 2).trans rfl; have bv_3 := (blk_cell BV.out 3).trans rfl; have bv_4 := (blk_cell BV.out 4).trans rfl; clear hb)
    | (go_at_call 58; with_reducible refine (HM.out _ W1B.out).mono ?_; rintro e W2 ⟨rfl, hb⟩; have W2B := Lib.hid (below_step W1B.out hb); clear hb))
  go_ret
  exact ⟨rfl, W2B.out⟩
set_option maxHeartbeats 8000000 in
theorem vblocks_calls {A0 A1 : Option Addr} {n0 c0 n1 c1 : Nat} {sq hf ln half : Int} (w : World) :
    Calls Try.prog 62 #[.agg #[.slice A0 n0 c0, .slice A1 n1 c1, .int .i64 sq, .int .i64 hf, .int .i64 ln], .int .i64 half] w fun e w' => ∃ g1 g2 : Nat, e = .returned (.func (.func 81) #[] #[.pointer (some ⟨g1, 0, none⟩), .pointer (some ⟨g2, 0, none⟩)]) ∧
      w'.heap[g1]? = some (.cells #[.slice A0 n0 c0, .slice A1 n1 c1, .int .i64 sq, .int .i64 hf, .int .i64 ln] 89 (0, 0)) ∧ w'.heap[g2]? = some (.cells #[.int .i64 half] 3 (0, 0)) ∧ Below w.heap.size w w' := by
  go_enter Try.func62, Try.ntmps62
  go_wp2
  go_ret
  exact ⟨_, _, rfl, bkA (heap_alloc_new w _) _, heap_alloc2_new w _ _, below_alloc (below_alloc (Below.refl _ _) _) _⟩
end Go.Proofs.Ytcfinlmocgbnbaa.Pr
end
section
set_option linter.unusedVariables false
namespace Go.Proofs.Ytcfinlmocgbnbaa.XB
open Go.RowKit Go.Shelf Go.Proofs.YtcfinlmocgbnbaaW.PrintWords
attribute [local go_sem] Oper.semAt_some
variable {F : Fence} {n : Nat} {P : Program}
theorem room_none {F : Fence} (hd : F.depth = none) (k : Nat) : F.room k := fun d h => by rw [hd] at h; cases h
def KK (B : Nat) (W W' : World) : Prop := W.heap.size ≤ W'.heap.size ∧ ∀ k, B ≤ k → k < W.heap.size → W'.heap[k]? = W.heap[k]?
theorem KK.keeps {B : Nat} {W W' : World} (h : KK B W W') : KeepsFrom B W W' := ⟨h.1, fun k o hk ho _ => (h.2 k hk (blk_lt ho)).trans ho⟩
theorem KK.trans {B : Nat} {W1 W2 W3 : World} (h : KK B W1 W2) (k : KK B W2 W3) : KK B W1 W3 := ⟨Nat.le_trans h.1 k.1, fun i hi hl => (k.2 i hi (Nat.lt_of_lt_of_le hl h.1)).trans (h.2 i hi hl)⟩
theorem KK.mono {B B' : Nat} {W W' : World} (h : KK B W W') (hB : B ≤ B') : KK B' W W' := ⟨h.1, fun k hk hl => h.2 k (Nat.le_trans hB hk) hl⟩
theorem KK.below {B : Nat} {W W' : World} (h : Below W.heap.size W W') : KK B W W' := ⟨h.size, fun k _ hl => h.block k hl⟩
theorem KK.put {B l : Nat} {W : World} (o : Obj) (hl : l < B) : KK B W (W.putObj l o) := by
  have g := grownBy_putObj' W l o
  exact ⟨g.size, fun k hk hlt => g.block k hlt (fun e => by injection e with e; omega)⟩
theorem KK.set {B : Nat} {W : World} (p : Addr) (u : Value) (hp : p.block < B) : KK B W (W.setCell p u) := ⟨by simp, fun k hk hlt => Below.heap_setCell W p u k (by omega)⟩
def IterOnce (F : Fence) (n : Nat) (P : Program) (g : Nat) (lb : Array Value) (v : Array Value) (Start : World → Prop) : Prop :=
  ∀ (l : Nat) (J Jx : World → Prop) (W : World), Start W → (∀ A B, J A → Below W.heap.size A B → J B) → (∀ A B, Jx A → Below W.heap.size A B → Jx B) →
    (∀ W1, J W1 → YieldAt F (n - 1) P l v W1 fun e W' => e = .returned (.bool false) ∧ Jx W' ∧ KK W.heap.size W1 W') →
    J W →
    CallsIn F n P g (#[.func (.yield l) #[] #[]] ++ lb) W fun e W' => (∃ v, e = .returned v) ∧ Jx W'
def oncePost (B : Nat) (Ix : World → Prop) (W : World) : Exit → Act → World → Prop
  | .ret, _, W' => KK B W W' ∧ Ix W'
  | _, _, _ => False
theorem wp_range_once {g : Operand} {ps : Array Tmp} {assign body : Code} {Q : Exit → Act → World → Prop} {a : Act} {w : World}
    (hro : F.round = none) (h1 : 1 ≤ n) {gf : Nat} {lb : Array Value} (hg : a.eval g = .func (.func gf) #[] lb) (hFg : F.fn gf) (eg : ∀ args w, (callFunc gf args).run P w = .ok (.enter gf args) w)
    {v : Array Value} {Start : World → Prop} (hseq : IterOnce F (n - 1) P gf lb v Start) (hStart : ∀ A B, Start A → Below w.heap.size A B → Start B) (hs0 : Start w) (hps : v.size = ps.size)
    (I Ix : World → Prop) (hI : ∀ A B, I A → Below w.heap.size A B → I B) (hIx : ∀ A B, Ix A → Below w.heap.size A B → Ix B) (h0 : I w) (a₁ : Act)
    (hassign : ∀ (l : Nat) (W : World) (K : Act → World → Prop), K a₁ W → assign.wpIn (F.inRound l) (n - 1 - 1) P (Exit.then K (fun _ _ _ => False)) { tmps := (ps.zip v).foldl (fun t (p, v) => t.setIfInBounds p v) a.tmps, defers := [] } W)
    (hbody : ∀ (l : Nat) (W : World), I W → body.wpIn (F.inRound l) (n - 1 - 1) P (oncePost w.heap.size Ix W) a₁ W)
    (hstop : ∀ (D : Nat) (W : World), w.heap.size ≤ D → Ix W → W.heap[D]? = some (.deferred (some [])) → Code.ret.wpIn F n P Q { a with defers := { target := .collected D, args := #[] } :: a.defers } W) :
    (Code.rangeFunc g ps assign body).wpIn F n P Q a w := by
  refine wpIn_rangeFunc ?_
  intro fn hfn
  rw [hro]
  obtain ⟨rec, hrec⟩ : ∃ rec : LoopState → Option Code → Loop, rec = fun st pe => { state := st, pending := pe, fn, tmps := a.tmps, params := ps, assign, body, defers := w.heap.size } := ⟨_, rfl⟩
  obtain ⟨W1, hW1⟩ : ∃ W1, (w.alloc (.deferred (some []))).alloc (.loop (rec .ready none)) = W1 := ⟨_, rfl⟩
  have hL1 : W1.heap[w.heap.size + 1]? = some (.loop (rec .ready none)) := by
    rw [← hW1]; have := World.alloc_heap_new (w.alloc (.deferred (some []))) (.loop (rec .ready none)); rwa [World.size_alloc] at this
  have hK1 : W1.heap[w.heap.size]? = some (.deferred (some [])) := by
    rw [← hW1]; exact (Below.heap_alloc _ _ _ (by simp)).trans (World.alloc_heap_new w _)
  have hz : W1.heap.size = w.heap.size + 2 := by rw [← hW1]; simp
  have hb1 : Below w.heap.size w W1 := by rw [← hW1]; exact below_alloc (below_alloc (Below.refl w.heap.size w) _) _
  have hput : ∀ (W : World) (o : Obj), w.heap.size + 1 < W.heap.size → Below w.heap.size W (W.putObj (w.heap.size + 1) o) := fun W o hlt => Below.grown (Below.refl _ W) (grownBy_putObj' W _ o) (by omega) (fun k e => by cases e; omega)
  refine ⟨w.heap.size + 1, [{ target := .collected w.heap.size, args := #[] }], W1, { target := .fn (.func gf) lb, args := #[.func (.yield (w.heap.size + 1)) #[] #[]] }, W1, gf,
    #[.func (.yield (w.heap.size + 1)) #[] #[]] ++ lb, W1, ?_, ?_, ?_, ?_, fun _ => h1, ?_⟩
  · rw [← hW1, hrec]; exact run_enterLoop_outer _ _ _ _ _
  · simp only [resolve, hg]
    simp [go_sem]
  · intro f' hf'; simp [Target.leads] at hf'; subst hf'; exact hFg
  · simp [invoke, go_sem, eg]
  · refine (hseq (w.heap.size + 1)
      (fun W => I W ∧ W.heap[w.heap.size + 1]? = some (.loop (rec .ready none)) ∧ W.heap[w.heap.size]? = some (.deferred (some [])))
      (fun W => Ix W ∧ W.heap[w.heap.size + 1]? = some (.loop (rec .done (some .ret))) ∧ W.heap[w.heap.size]? = some (.deferred (some [])))
      W1 (hStart _ _ hs0 hb1)
      (fun A B hs ht => ⟨hI A B hs.1 (ht.mono (by omega)), (ht.block _ (by omega)).trans hs.2.1, (ht.block _ (by omega)).trans hs.2.2⟩)
      (fun A B hs ht => ⟨hIx A B hs.1 (ht.mono (by omega)), (ht.block _ (by omega)).trans hs.2.1, (ht.block _ (by omega)).trans hs.2.2⟩)
      ?_ ⟨hI _ _ h0 hb1, hL1, hK1⟩).mono ?_
    · rintro W ⟨hi, hl, hk⟩
      have hlt : w.heap.size + 1 < W.heap.size := blk_lt hl
      have hy := run_yield (P := P) (args := v) hl (by rw [hrec]; exact hps)
      rw [hrec] at hy
      refine ⟨fn, _, assign, body, hy, roundIn_of_wpIn hfn (hassign _ W _ ⟨_, run_beginRound hl (by rw [hrec]), ?_⟩)⟩
      have hl2 : (W.putObj (w.heap.size + 1) (.loop { rec .ready none with state := .busy })).heap[w.heap.size + 1]? = some (.loop { rec .ready none with state := .busy }) := World.putObj_heap_same hlt
      have hk2 : (W.putObj (w.heap.size + 1) (.loop { rec .ready none with state := .busy })).heap[w.heap.size]? = some (.deferred (some [])) := (World.putObj_heap_other (by omega)).trans hk
      refine wpIn_mono (hbody _ _ (hI _ _ hi (hput W _ hlt))) ?_
      rintro e a3 W3 hp
      cases e with
      | ret =>
        obtain ⟨hk3, hi3⟩ := hp
        have hl3 := hk3.keeps.same _ _ (by omega) hl2 rfl
        have hlt3 := blk_lt hl3
        have hr := run_endRound (P := P) (some .ret) hl3
        refine ⟨_, _, hr, rfl, ⟨hIx _ _ hi3 (hput W3 _ hlt3), ?_, ?_⟩, ?_⟩
        · rw [World.putObj_heap_same hlt3, hrec]; rfl
        · exact (World.putObj_heap_other (by omega)).trans (hk3.keeps.same _ _ (Nat.le_refl _) hk2 rfl)
        · rw [hz]
          exact ((KK.put _ (by omega)).trans (hk3.mono (by omega))).trans (KK.put _ (by omega))
      | normal => exact hp.elim
      | exit id => exact hp.elim
      | goto t => exact hp.elim
      | panic ch => exact hp.elim
      | outgrown => exact hp.elim
    · rintro e W2 ⟨⟨v, rfl⟩, hi, hl, hk⟩
      have hlt := blk_lt hl
      exact ⟨some .ret, _, by have := run_endLoop (P := P) hl (by rw [hrec]; simp); rw [hrec] at this; exact this, hstop _ _ (Nat.le_refl _) (hIx _ _ hi (hput W2 _ hlt)) ((World.putObj_heap_other (by omega)).trans hk)⟩
theorem wp_range1_once {g : Operand} {p d rid ty : Nat} {pos : String} {body : Code} {Q : Exit → Act → World → Prop} {tmps : Array Value} {w : World}
    (hro : F.round = none) (h1 : 1 ≤ n) {gf : Nat} {lb : Array Value} (hg : ({ tmps := tmps, defers := [] } : Act).eval g = .func (.func gf) #[] lb) (hFg : F.fn gf) (eg : ∀ args w, (callFunc gf args).run P w = .ok (.enter gf args) w)
    (v : Value) {Start : World → Prop} (hseq : IterOnce F (n - 1) P gf lb #[v] Start) (hStart : ∀ A B, Start A → Below w.heap.size A B → Start B) (hs0 : Start w) (hp : p < tmps.size)
    (I Ix : World → Prop) (hI : ∀ A B, I A → Below w.heap.size A B → I B) (hIx : ∀ A B, Ix A → Below w.heap.size A B → Ix B) (h0 : I w)
    (hbody : ∀ (l : Nat) (W : World), I W → body.wpIn (F.inRound l) (n - 1 - 1) P (oncePost w.heap.size Ix W) { tmps := (tmps.setIfInBounds p v).setIfInBounds d v, defers := [] } W)
    (hstop : ∀ (D : Nat) (W : World), w.heap.size ≤ D → Ix W → W.heap[D]? = some (.deferred (some [])) → Code.ret.wpIn F n P Q { tmps := tmps, defers := [{ target := .collected D, args := #[] }] } W) :
    (Code.rangeFunc g #[p] (Code.region rid #[{ dst := some d, op := Op.assign (Operand.tmp p), type := ty, pos := pos, after := #[], guard := none }] false) body).wpIn F n P Q { tmps := tmps, defers := [] } w :=
  wp_range_once hro h1 hg hFg eg hseq hStart hs0 rfl I Ix hI hIx h0 { tmps := (tmps.setIfInBounds p v).setIfInBounds d v, defers := [] } (fun l W K hK => assign_one l rid d p ty pos v tmps W K hp hK) hbody hstop
theorem wpIn_rangeFunc_seq2 {g : Operand} {ps : Array Tmp} {assign body : Code} {Q : Exit → Act → World → Prop} {a : Act} {w : World}
    (hro : F.round = none) (h1 : 1 ≤ n) {gf : Nat} {lb : Array Value} (hg : a.eval g = .func (.func gf) #[] lb) (hFg : F.fn gf) (eg : ∀ args w, (callFunc gf args).run P w = .ok (.enter gf args) w)
    {vals : Nat → Array Value} {N : Nat} {Start : World → Prop} {Tch Kp : World → World → Prop} (hseq : IterSeq F (n - 1) P gf lb vals N Start Tch Kp)
    (hStart : OwnW w.heap.size Start) (hs0 : Start w) (hT : ∀ A B, Tch A B → KeepsFrom w.heap.size A B)
    (hKt : ∀ {A B C : World}, Kp A B → Kp B C → Kp A C) (hKb : ∀ (W : World) (l : Nat) (o o' : Obj), w.heap.size ≤ l → W.heap[l]? = some o → o.isCells = false → Kp W (W.putObj l o')) (hps : ∀ k, (vals k).size = ps.size)
    (I : Nat → World → Prop) (Ix : Code → Nat → World → Prop) (hI : ∀ k, OwnW w.heap.size (I k)) (hIx : ∀ c k, OwnW w.heap.size (Ix c k))
    (hIT : ∀ k A B, I k A → Tch A B → I k B) (hIxT : ∀ c k A B, Ix c k A → Tch A B → Ix c k B) (h0 : I 0 w) (Ax : Nat → Act → World → Prop) (hAx : ∀ k a', OwnW w.heap.size (Ax k a'))
    (hassign : ∀ (l k : Nat) (W : World) (K : Act → World → Prop), I k W → k < N → (∀ a' W', KeepsFrom w.heap.size W W' → Kp W W' → I k W' → Ax k a' W' → K a' W') →
      assign.wpIn (F.inRound l) (n - 1 - 1) P (Exit.then K (fun _ _ _ => False)) { tmps := (ps.zip (vals k)).foldl (fun t (p, v) => t.setIfInBounds p v) a.tmps, defers := [] } W)
    (hbody : ∀ (l k : Nat) (a' : Act) (W : World), I k W → Ax k a' W → k < N → body.wpIn (F.inRound l) (n - 1 - 1) P (seqPost w.heap.size Kp I Ix (k + 1) W) a' W)
    (hdone : ∀ (D : Nat) (W : World), w.heap.size ≤ D → I N W → W.heap[D]? = some (.deferred (some [])) → Q .normal { a with defers := { target := .collected D, args := #[] } :: a.defers } W)
    (hstop : ∀ (D : Nat) (c : Code) (k : Nat) (W : World), w.heap.size ≤ D → k ≤ N → Ix c k W → W.heap[D]? = some (.deferred (some [])) → c.wpIn F n P Q { a with defers := { target := .collected D, args := #[] } :: a.defers } W) :
    (Code.rangeFunc g ps assign body).wpIn F n P Q a w := by
  refine wpIn_rangeFunc ?_
  intro fn hfn
  rw [hro]
  obtain ⟨rec, hrec⟩ : ∃ rec : LoopState → Option Code → Loop, rec = fun st pe => { state := st, pending := pe, fn, tmps := a.tmps, params := ps, assign, body, defers := w.heap.size } := ⟨_, rfl⟩
  obtain ⟨W1, hW1⟩ : ∃ W1, (w.alloc (.deferred (some []))).alloc (.loop (rec .ready none)) = W1 := ⟨_, rfl⟩
  have hL1 : W1.heap[w.heap.size + 1]? = some (.loop (rec .ready none)) := by
    rw [← hW1]; have := World.alloc_heap_new (w.alloc (.deferred (some []))) (.loop (rec .ready none)); rwa [World.size_alloc] at this
  have hK1 : W1.heap[w.heap.size]? = some (.deferred (some [])) := by
    rw [← hW1]; exact (Below.heap_alloc _ _ _ (by simp)).trans (World.alloc_heap_new w _)
  have hI1 : I 0 W1 := by rw [← hW1]; exact (hI 0).alloc _ ((hI 0).alloc _ h0)
  have hS1 : Start W1 := by rw [← hW1]; exact hStart.alloc _ (hStart.alloc _ hs0)
  refine ⟨w.heap.size + 1, [{ target := .collected w.heap.size, args := #[] }], W1, { target := .fn (.func gf) lb, args := #[.func (.yield (w.heap.size + 1)) #[] #[]] }, W1, gf,
    #[.func (.yield (w.heap.size + 1)) #[] #[]] ++ lb, W1, ?_, ?_, ?_, ?_, fun _ => h1, ?_⟩
  · rw [← hW1, hrec]; exact run_enterLoop_outer _ _ _ _ _
  · simp only [resolve, hg]
    simp [go_sem]
  · intro f' hf'; simp [Target.leads] at hf'; subst hf'; exact hFg
  · simp [invoke, go_sem, eg]
  · refine (hseq (w.heap.size + 1)
      (fun k W => I k W ∧ W.heap[w.heap.size + 1]? = some (.loop (rec .ready none)) ∧ W.heap[w.heap.size]? = some (.deferred (some [])))
      (fun k W => ∃ c, Ix c k W ∧ W.heap[w.heap.size + 1]? = some (.loop (rec .done (some c))) ∧ W.heap[w.heap.size]? = some (.deferred (some [])))
      W1 hS1
      (fun k A B hs ht => ⟨hIT k A B hs.1 ht, (hT A B ht).same _ _ (by omega) hs.2.1 rfl, (hT A B ht).same _ _ (Nat.le_refl _) hs.2.2 rfl⟩)
      (fun k A B hs ht => by
        obtain ⟨c, hc, hl, hk⟩ := hs
        exact ⟨c, hIxT c k A B hc ht, (hT A B ht).same _ _ (by omega) hl rfl, (hT A B ht).same _ _ (Nat.le_refl _) hk rfl⟩)
      ?_ ⟨hI1, hL1, hK1⟩).mono ?_
    · rintro k W ⟨hi, hl, hk⟩ hlen
      have hlt : w.heap.size + 1 < W.heap.size := (Array.getElem?_eq_some_iff.1 hl).1
      have hy := run_yield (P := P) (args := vals k) hl (by rw [hrec]; exact hps k)
      rw [hrec] at hy
      refine ⟨fn, _, assign, body, hy, roundIn_of_wpIn hfn (hassign _ k W _ hi hlen fun a' W' hkw hkpw hi' hax => ?_)⟩
      have hl' := hkw.same _ _ (by omega) hl rfl
      have hk' := hkw.same _ _ (Nat.le_refl _) hk rfl
      have hlt' := blk_lt hl'
      refine ⟨_, run_beginRound hl' (by rw [hrec]), ?_⟩
      have hl2 : (W'.putObj (w.heap.size + 1) (.loop { rec .ready none with state := .busy })).heap[w.heap.size + 1]? = some (.loop { rec .ready none with state := .busy }) := World.putObj_heap_same hlt'
      have hk2 : (W'.putObj (w.heap.size + 1) (.loop { rec .ready none with state := .busy })).heap[w.heap.size]? = some (.deferred (some [])) := (World.putObj_heap_other (by omega)).trans hk'
      have hw2 : Kp W (W'.putObj (w.heap.size + 1) (.loop { rec .ready none with state := .busy })) := hKt hkpw (hKb _ _ _ _ (by omega) hl' rfl)
      refine wpIn_mono (hbody _ k _ _ ((hI k).putObj _ hi' (by omega) hl' rfl) ((hAx k a').putObj _ hax (by omega) hl' rfl) hlen) ?_
      have fin : ∀ (jump : Option Code) (W3 : World), KeepsFrom w.heap.size (W'.putObj (w.heap.size + 1) (.loop { rec .ready none with state := .busy })) W3 →
          (Instr.endRound (w.heap.size + 1) jump).run P W3 = .ok (.bool jump.isNone) (W3.putObj (w.heap.size + 1) (.loop (rec (if jump.isNone then .ready else .done) jump))) ∧
          W3.heap[w.heap.size + 1]? = some (.loop { rec .ready none with state := .busy }) ∧
          (W3.putObj (w.heap.size + 1) (.loop (rec (if jump.isNone then .ready else .done) jump))).heap[w.heap.size + 1]? = some (.loop (rec (if jump.isNone then .ready else .done) jump)) ∧
          (W3.putObj (w.heap.size + 1) (.loop (rec (if jump.isNone then .ready else .done) jump))).heap[w.heap.size]? = some (.deferred (some [])) := fun jump W3 hk3 => by
        have hl3 := hk3.same _ _ (by omega) hl2 rfl
        have := run_endRound (P := P) jump hl3
        rw [hrec] at this ⊢
        exact ⟨this, by rw [hrec] at hl3; exact hl3, World.putObj_heap_same (Array.getElem?_eq_some_iff.1 hl3).1, (World.putObj_heap_other (by omega)).trans (hk3.same _ _ (Nat.le_refl _) hk2 rfl)⟩
      rintro e a3 W3 hp
      cases e with
      | normal =>
        obtain ⟨hk3, hkp3, hi3⟩ := hp
        obtain ⟨hr, hl3, hl4, hk4⟩ := fin none W3 hk3
        exact ⟨_, _, hr, .inl ⟨rfl, ⟨(hI _).putObj _ hi3 (by omega) hl3 rfl, hl4, hk4⟩, hKt (hKt hw2 hkp3) (hKb _ _ _ _ (by omega) hl3 rfl)⟩⟩
      | ret =>
        obtain ⟨hk3, hi3⟩ := hp
        obtain ⟨hr, hl3, hl4, hk4⟩ := fin (some .ret) W3 hk3
        exact ⟨_, _, hr, .inr ⟨rfl, .ret, (hIx _ _).putObj _ hi3 (by omega) hl3 rfl, hl4, hk4⟩⟩
      | exit id =>
        obtain ⟨hk3, hi3⟩ := hp
        obtain ⟨hr, hl3, hl4, hk4⟩ := fin (some (.exit id)) W3 hk3
        exact ⟨_, _, hr, .inr ⟨rfl, .exit id, (hIx _ _).putObj _ hi3 (by omega) hl3 rfl, hl4, hk4⟩⟩
      | goto t =>
        obtain ⟨hk3, hi3⟩ := hp
        obtain ⟨hr, hl3, hl4, hk4⟩ := fin (some (.goto t)) W3 hk3
        exact ⟨_, _, hr, .inr ⟨rfl, .goto t, (hIx _ _).putObj _ hi3 (by omega) hl3 rfl, hl4, hk4⟩⟩
      | panic ch => exact hp.elim
      | outgrown => exact hp.elim
    · rintro e W2 ⟨⟨v, rfl⟩, (⟨hi, hl, hk⟩ | ⟨k, hkN, c, hi, hl, hk⟩)⟩
      · exact ⟨none, _, by have := run_endLoop (P := P) hl (by rw [hrec]; simp); rw [hrec] at this; exact this, hdone _ _ (Nat.le_refl _) ((hI _).putObj _ hi (by omega) hl rfl) ((World.putObj_heap_other (by omega)).trans hk)⟩
      · exact ⟨some c, _, by have := run_endLoop (P := P) hl (by rw [hrec]; simp); rw [hrec] at this; exact this, hstop _ c k _ (Nat.le_refl _) hkN ((hIx c k).putObj _ hi (by omega) hl rfl) ((World.putObj_heap_other (by omega)).trans hk)⟩
end Go.Proofs.Ytcfinlmocgbnbaa.XB
end
section
set_option linter.unusedVariables false
namespace Go.Proofs.Ytcfinlmocgbnbaa.XB
open Go.RowKit
section
variable {P : Program} {ops : Array Oper} {md : Region.Mode} {C : World → Prop} {n : Nat}
theorem Oper.wide_of_quiet {o : Oper} {a : Act} {K : Act → Prop} {K' : Act → World → Prop} {Q : Exit → Act → World → Prop} {w : World} (hd : ∀ c, o.op ≠ .defer c) (hw : C w) (h : ∀ a w', C w' → K a → K' a w') (hh : o.quiet P a C K) :
    o.wpIn Fence.wide n P a w K' Q := by
  obtain ⟨v, h1, h2⟩ := hh
  have h3 := h1 w hw
  refine ⟨fun _ _ => trivial, ?_⟩
  show o.uponIn Fence.wide n P a K' Q ((o.semAt none a.eval).run P w)
  rw [show o.semAt none a.eval = execOp a.eval o from rfl]
  unfold Oper.quietAt at h3
  generalize (execOp a.eval o).run P w = r at *
  cases r with
  | ok m w' =>
    cases m <;> simp only [Oper.quietUpon] at h3
    case value u =>
      obtain ⟨e1, e2⟩ := h3
      rw [e1, e2]
      exact h _ _ hw h2
    case skip =>
      obtain ⟨e1, e2⟩ := h3
      subst e2
      rw [e1]
      exact h _ _ hw h2
    case enter f args =>
      obtain ⟨e1, hc⟩ := h3
      rw [e1]
      refine ⟨fun hx => (by cases hx), (callsIn_wide.2 (hc.mono fun e w'' ⟨he, hw''⟩ => ?_))⟩
      subst he
      exact h _ _ hw'' h2
  | halt x w' => simp only [Oper.quietUpon] at h3
theorem wide_of_qOp {i : Nat} {a : Act} {K : Act → Prop} {K' : Act → World → Prop} {Q : Exit → Act → World → Prop} {w : World} (hn : noDefer ops = true) (hC : C w) (h : ∀ a w', C w' → K a → K' a w') (hh : qOp P ops C i K a) :
    wpOpIn Fence.wide n P ops Q i K' a w := by
  unfold qOp at hh
  unfold wpOpIn
  split
  · rename_i ho; simp only [ho] at hh; exact h _ _ hC hh
  · rename_i o ho
    simp only [ho] at hh
    split
    · rename_i hw; simp only [hw, if_true] at hh; exact Oper.wide_of_quiet (noDefer_spec hn ho) hC h hh
    · rename_i hw; simp only [hw] at hh; exact ⟨fun _ _ => trivial, h _ _ hC hh⟩
theorem HeadQ.wide {m g : Nat} {L : Array Bool → Act → Prop} {Q : Exit → Act → World → Prop} (hn : noDefer ops = true) (hL : ∀ up a w, C w → L up a → wpAnyIn Fence.wide n P md ops Q g up a w) :
    ∀ (f : Nat) (up : Array Bool) (a : Act) (w : World), C w → HeadQ P md ops C m L f up a → wpAnyIn Fence.wide n P md ops Q (f + g) up a w
  | 0, up, a, w, hC, h => by rw [Nat.zero_add]; exact hL _ _ _ hC h
  | f + 1, up, a, w, hC, h => by
    rw [show f + 1 + g = (f + g) + 1 by omega]
    exact ⟨fun h0 => absurd h0 h.1, fun i hi => wide_of_qOp hn hC (fun a' w' hC' h' => HeadQ.wide hn hL f _ a' w' hC' h') (h.2 i hi).2⟩
theorem wide_tail {id : Nat} {Q : Exit → Act → World → Prop} {a : Act} {w : World} {ol : List Oper} (C : World → Prop) (m : Nat) (hm : P.follows .mixedOrders = true) (hB : Region.lexTailB .any ol.toArray m = true) (hd : noDefer ol.toArray = true) (hC : C w.drew)
    (h : wpQuiet P ol.toArray C (fun a' => ∀ w', C w' → wpListIn Fence.wide n P ol.toArray Q (ol.drop m) a' w') (ol.take m) a) : (Code.region id ol.toArray true).wpIn Fence.wide n P Q a w := by
  simp only [Region.lexTailB, Bool.and_eq_true, decide_eq_true_eq] at hB
  obtain ⟨⟨⟨⟨hsel, hn⟩, hs⟩, hc⟩, hlex⟩ := hB
  have htl : (ol.take m).length = m := by simp at hn ⊢; omega
  have hdl : (ol.drop m).length = ol.toArray.size - m := by simp
  have inv0 : HeadInv .any ol.toArray m (Array.replicate ol.toArray.size false) :=
    ⟨by simp, fun j oj _ hl => (by rw [getD_replicate_false] at hl; cases hl), fun t _ ht => getD_in (by simpa using ht) (getD_replicate_false _ _)⟩
  have H := HeadQ.lex (md := .any) (g := ol.toArray.size - m) hsel hs hc hn (ol.take m) 0 _ a (fun j hj => by
    have hj' : j < m := by rw [htl] at hj; exact hj
    simp [hj']) (by simpa using htl) inv0 (by rw [htl]; exact hlex) h
  refine wpIn_region_any hm ?_
  have := HeadQ.wide (n := n) (C := C) (Q := Q) (g := ol.toArray.size - m) hd (fun up a' w' hC' hL => by
    have := any_of_seq (md := .any) (Q := Q) (n := n) (F := Fence.wide) (ol.drop m) m up a' w' (fun j => by simp [List.getElem?_drop]) (by rw [hdl]; exact hL.1) (hL.2 w' hC')
    rwa [hdl] at this) _ _ _ w.drew hC H
  rw [htl, show m + (ol.toArray.size - m) = ol.toArray.size by omega] at this
  exact this
theorem wide_of_quiet {Qa : Act → Prop} {Q : Exit → Act → World → Prop} (hn : noDefer ops = true) (hQ : ∀ a w, C w → Qa a → Q .normal a w) : ∀ (fuel : Nat) (up : Array Bool) (a : Act) (w : World), C w →
    wpAnyQ P md ops C Qa fuel up a → wpAnyIn Fence.wide n P md ops Q fuel up a w
  | 0, _, _, _, hw, h => ⟨h.1, hQ _ _ hw h.2⟩
  | fuel + 1, _, _, _, hw, h => ⟨fun h0 => hQ _ _ hw (h.1 h0), fun i hi => wide_of_qOp hn hw (fun a' w' hw' => wide_of_quiet hn hQ fuel _ a' w' hw') (h.2 i hi)⟩
theorem wide_all {id : Nat} {Q : Exit → Act → World → Prop} {a : Act} {w : World} {ol : List Oper} (C : World → Prop) (hm : P.follows .mixedOrders = true) (hB : Region.lexB .any ol.toArray = true) (hd : noDefer ol.toArray = true) (hC : C w.drew)
    (h : wpQuiet P ol.toArray C (fun a' => ∀ w', C w' → Q .normal a' w') ol a) : (Code.region id ol.toArray true).wpIn Fence.wide n P Q a w := by
  simp only [Region.lexB, Bool.and_eq_true] at hB
  refine wpIn_region_any hm (wide_of_quiet (Qa := fun a' => ∀ w', C w' → Q .normal a' w') hd (fun _ w' hw' h => h w' hw') _ _ _ _ hC ?_)
  have := wpAnyQ_lex (C := C) (md := .any) hB.1 ol.toArray.toList 0 (Array.replicate ol.toArray.size false) a (by simp) (by simpa using hB.2) (by simpa using h)
  simpa using this
end
end Go.Proofs.Ytcfinlmocgbnbaa.XB
end
section
namespace Go.Proofs.Ytcfinlmocgbnbaa.Pr
open Go.RowKit Go.Shelf Go.Proofs.Ytcfinlmocgbnbaa.XB Go.Proofs.YtcfinlmocgbnbaaW.PrintWords Go.Proofs.YtcfinlmocgbnbaaW.PrintLast Go.Proofs.YtcfinlmocgbnbaaW.PrintMore
attribute [local go_sem] Oper.semAt_some
set_option linter.unusedVariables false
set_option linter.unusedSimpArgs false
theorem round_in {F : Fence} {m : Nat} (l' m' : Nat) (hd : F.depth = none) {P : Program} {l : Nat} {f : FuncId} {tmps : Array Value} {assign body : Code} {w : World} {R : Ending → World → Prop}
    (h : RoundIn F m P l f tmps assign body w R) : RoundIn (F.inRound l') m' P l f tmps assign body w R := ⟨h.1, fun c cs _ => h.2 c cs (room_none hd _)⟩
theorem zip_two (p q : Tmp) (x y : Value) (t : Array Value) : ((#[p, q] : Array Tmp).zip #[x, y]).foldl (fun t (p, v) => t.setIfInBounds p v) t = (t.setIfInBounds p x).setIfInBounds q y := by simp
def mvV (m : S24) : Value := .agg #[.bool m.f0, .int .i64 m.f1, .string m.f2]
set_option maxRecDepth 100000 in
set_option maxHeartbeats 4000000 in
theorem back_seq (m : Nat) (hm : 1 ≤ m) (w0 : World) (b1 : Nat) (A : Option Addr) (c : Nat) (so : List S24)
    (h1 : w0.heap[b1]? = some (.cells #[.slice A so.length c] 28 (0, 0))) (hr : Kd.C k24 w0 A so.length so) (hc : so.length ≤ c) (hso : so.length ≤ 1000000) :
    IterSeq Fence.wide m Try.prog 90 #[.pointer (some ⟨b1, 0, none⟩)] (fun k => #[.int .i64 ((so.length : Int) - 1 - k), mvV (rd_T24 so ((so.length : Int) - 1 - k))]) so.length (fun W => Below w0.heap.size w0 W) (fun A B => A = B) (fun A B => Below w0.heap.size A B) := by
  intro l J Jx W hS hJT hJxT hY h0
  have hcell : ∀ W', Below w0.heap.size w0 W' → W'.cell? ⟨b1, 0, none⟩ = some (.slice A so.length c) := fun W' hb => (blk_cell (blk_same h1 hb) 0).trans rfl
  have c1 := hcell W hS
  refine callsIn_of_wp Try.func90 rfl trivial ?_ rfl
  simp only [Try.ntmps90, List.size_toArray, List.length_cons, List.length_nil, Nat.reduceAdd, Nat.reduceSub, Array.replicate_succ, Array.replicate_zero, List.push_toArray, List.append_toArray, List.nil_append, List.cons_append]
  gi_wp2
  gi_loopw [3] (fun v wr => ∃ k : Nat, k ≤ so.length ∧ v = .int .i64 ((so.length : Int) - 1 - k) ∧ J k wr ∧ Below w0.heap.size w0 wr)
    (fun v _ => (intOf v + 1).toNat)
  case atStart => exact ⟨0, by omega, by simp, h0, hS⟩
  case round =>
    obtain ⟨k, hk, rfl, hJs, hB⟩ := hrel
    clear c1
    have c1 := hcell wr hB
    by_cases hlt : k < so.length
    · obtain ⟨i, hi⟩ : ∃ i : Nat, (so.length : Int) - 1 - k = i := ⟨so.length - 1 - k, by omega⟩
      obtain ⟨ad, rfl, r0, r1, r2⟩ := at_T24 hr (i : Int) (by omega) (by omega)
      have q0 := (hB.cell (World.block_lt_of_cell? w0 _ r0)).trans r0
      have q1 := (hB.cell (World.block_lt_of_cell? w0 _ r1)).trans r1
      have q2 := (hB.cell (World.block_lt_of_cell? w0 _ r2)).trans r2
      simp only [Int.toNat_natCast] at q0 q1 q2
      obtain ⟨fn, tmps, assign, body, hy, hR⟩ := hY k wr hJs hlt
      have HI := Lib.hid hi
      rw [hi] at hy ⊢
      unfold mvV at hy
      have hi0 : (0 : Int) ≤ i := by omega
      have hi1 : (i : Int) < so.length := by omega
      clear r0 r1 r2 hi
      gi_wp2
      refine hR.mono ?_
      rintro e W3 (⟨rfl, hJ3, hk3⟩ | ⟨rfl, hJx3⟩)
      · have hw : wrap64 ((i : Int) - 1) = (so.length : Int) - 1 - ((k + 1 : Nat) : Int) := by have := HI.out; unfold wrap64; omega
        have hme : (so.length : Int) - 1 - ((k + 1 : Nat) : Int) + 1 < (i : Int) + 1 := by have := HI.out; omega
        have HW := Lib.hid hw
        have HME := Lib.hid hme
        clear hw hme q0 q1 q2 c1
        gi_wp2
        go_roundw
        case rel => exact ⟨k + 1, by omega, congrArg (Value.int .i64) (by first | exact HW.out | (have := HI.out; omega)), hJ3, hB.trans hk3⟩
        case measure => simp [intOf]
      · gi_wp2
        refine bodyPost_ret (results_none rfl _ _ _) rfl ?_
        exact ⟨⟨_, rfl⟩, .inr ⟨k + 1, by omega, hJx3⟩⟩
    · obtain rfl : k = so.length := by omega
      have hneg : ¬ (0 : Int) ≤ (so.length : Int) - 1 - (so.length : Int) := by omega
      gi_wp2
      go_end0
      exact ⟨⟨_, rfl⟩, .inl hJs⟩
theorem backF_calls (A : Option Addr) (n c : Nat) (w : World) : Calls Try.prog 75 #[.slice A n c] w fun e w' => e = .returned (.func (.func 90) #[] #[.pointer (some ⟨w.heap.size, 0, none⟩)]) ∧ w' = w.alloc (.cells #[.slice A n c] 28) := by
  go_enter Try.func75, Try.ntmps75
  go_wp2
  go_ret
  exact ⟨rfl, rfl⟩
theorem last_none {su : List ByteArray} {so : List S24} {b : Int} (h : ∀ j, (hj : j < so.length) → so[j].f1 ≠ b) : lastB su so b = rdOf ByteArray.empty su b := by
  unfold lastB
  rw [List.find?_eq_none.2]
  intro x hx
  obtain ⟨j, hj, rfl⟩ := List.getElem_of_mem (List.mem_reverse.1 hx)
  simpa using h j hj
theorem last_some {su : List ByteArray} {so : List S24} {b : Int} {i : Nat} (hi : i < so.length) (hb : so[i].f1 = b) (h : ∀ j, (hj : j < so.length) → i < j → so[j].f1 ≠ b) : lastB su so b = so[i].f2 := by
  unfold lastB
  have : so.reverse.find? (fun m => decide (m.f1 = b)) = some so[i] := by
    rw [List.find?_eq_some_iff_getElem]
    refine ⟨by simpa using hb, so.length - 1 - i, by simp; omega, ?_, ?_⟩
    · rw [List.getElem_reverse]
      congr 1
      omega
    · intro j hj
      rw [List.getElem_reverse]
      simpa using h _ (by omega) (by omega)
  rw [this]
set_option maxRecDepth 100000 in
set_option maxHeartbeats 4000000 in
theorem latest_once (m : Nat) (hm : 5 ≤ m) (w0 : World) (b1 b2 : Nat) (A0 : Option Addr) (c0 : Nat) (su : List ByteArray) (A1 : Option Addr) (c1 : Nat) (so : List S24) (b : Int)
    (h1 : w0.heap[b1]? = some (.cells #[.slice A0 su.length c0, .slice A1 so.length c1] 30 (0, 0))) (h2 : w0.heap[b2]? = some (.cells #[.int .i64 b] 3 (0, 0)))
    (hr0 : Kd.C Kd.string w0 A0 su.length su) (hr1 : Kd.C k24 w0 A1 so.length so) (hc1 : so.length ≤ c1) (hso : so.length ≤ 1000000) (hb0 : 0 ≤ b) (hb1 : b < su.length) :
    IterOnce Fence.wide m Try.prog 74 #[.pointer (some ⟨b1, 0, none⟩), .pointer (some ⟨b2, 0, none⟩)] #[.string (lastB su so b)] (fun W => Below w0.heap.size w0 W) := by
  intro l J Jx W hS hJ hJx hY h0
  refine callsIn_of_wp_marks Try.func74 rfl trivial ?_ rfl
  simp only [Try.ntmps74, List.size_toArray, List.length_cons, List.length_nil, Nat.reduceAdd, Nat.reduceSub, Array.replicate_succ, Array.replicate_zero, List.push_toArray, List.append_toArray, List.nil_append, List.cons_append]
  have d1 : ∀ X, Below w0.heap.size w0 X → X.cell? ⟨b1, 0, none⟩ = some (.slice A0 su.length c0) ∧ X.cell? ⟨b1, 1, none⟩ = some (.slice A1 so.length c1) ∧ X.cell? ⟨b2, 0, none⟩ = some (.int .i64 b) := fun X hX => ⟨(blk_cell (blk_same h1 hX) 0).trans rfl, (blk_cell (blk_same h1 hX) 1).trans rfl, (blk_cell (blk_same h2 hX) 0).trans rfl⟩
  have hSA : ∀ o, Below w0.heap.size w0 (W.alloc o) := fun o => below_alloc hS o
  have k1 := fun o => (d1 _ (hSA o)).2.1
  gi_wp2_with fail
  refine ⟨trivial, (fun _ => by omega), (callsIn_wide.2 (backF_calls A1 so.length c1 _)).mono ?_⟩
  rintro e U ⟨rfl, hU⟩
  have BY : U.heap[W.heap.size]? = some (.cells #[.func (.yield l) #[] #[]] 79 (0, 0)) := by rw [hU]; exact heap_alloc2_old W _ _
  have B28 : U.heap[W.heap.size + 1]? = some (.cells #[.slice A1 so.length c1] 28 (0, 0)) := by rw [hU]; exact heap_alloc2_new W _ _
  have HU : Below W.heap.size W U := by rw [hU]; exact below_alloc (below_alloc (Below.refl W.heap.size W) _) _
  have HBU : Below w0.heap.size w0 U := hS.trans (HU.mono hS.size)
  have hz : W.heap.size + 1 < U.heap.size := blk_lt B28
  have hJU := hJ _ _ h0 HU
  rw [show (W.alloc (.cells #[.func (.yield l) #[] #[]] 79)).heap.size = W.heap.size + 1 from World.size_alloc _ _]
  have HHU := Lib.hid hU
  clear hU k1
  gi_wp2_with fail
  clear HHU
  have hgrow : ∀ (A B : World) (row : Option Nat), A.grownBy B row → (∀ r, row = some r → U.heap.size ≤ r) → U.heap.size ≤ A.heap.size → Below U.heap.size A B := fun A B row hg hr hs => Below.grown (Below.refl _ A) hg hs (fun k e => hr k e)
  refine wpIn_rangeFunc_seq2 (n := m) (F := Fence.wide) rfl (by omega) (gf := 90) (lb := #[.pointer (some ⟨W.heap.size + 1, 0, none⟩)]) rfl trivial (enters_of Try.func90 (by kernel_rfl) rfl)
    (back_seq (m - 1) (by omega) U (W.heap.size + 1) A1 c1 so B28 (Kd.C_below hr1 HBU) hc1 hso) (.below (Nat.le_refl _) (Nat.le_refl _)) (Below.refl _ _) (fun A B e => by rw [e]; exact KeepsFrom.refl _ _)
    (fun {A B C} h k => h.trans k) (fun X_ l_ o o' hl ho _ => Below.grown (Below.refl _ X_) (grownBy_putObj' X_ l_ o') (Nat.le_of_lt (Nat.lt_of_le_of_lt hl (blk_lt ho))) (fun k e => by cases e; exact hl)) (fun _ => rfl)
    (fun k X => U.heap.size ≤ X.heap.size ∧ J X ∧ Below U.heap.size U X ∧ ∀ j, (hj : j < so.length) → so.length ≤ j + k → so[j].f1 ≠ b)
    (fun c k X => U.heap.size ≤ X.heap.size ∧ c = .ret ∧ Jx X)
    (fun k A B row h hg hr => ⟨Nat.le_trans h.1 hg.size, hJ _ _ h.2.1 ((hgrow _ _ _ hg (fun r e => (hr r e).1) h.1).mono (by omega)), h.2.2.1.trans (hgrow _ _ _ hg (fun r e => (hr r e).1) h.1), h.2.2.2⟩)
    (fun c k A B row h hg hr => ⟨Nat.le_trans h.1 hg.size, h.2.1, hJx _ _ h.2.2 ((hgrow _ _ _ hg (fun r e => (hr r e).1) h.1).mono (by omega))⟩)
    (fun k A B h e => by rw [← e]; exact h) (fun c k A B h e => by rw [← e]; exact h)
    ⟨Nat.le_refl _, hJU, Below.refl _ _, fun j hj hk => absurd hk (by omega)⟩
    (fun k a' X => ∃ g5 : Nat, a' = ⟨#[.func (.yield l) #[] #[], .pointer (some ⟨b1, 0, none⟩), .pointer (some ⟨b2, 0, none⟩), .pointer (some ⟨W.heap.size, 0, none⟩), undef, .pointer (some ⟨g5, 0, none⟩), .pointer (some ⟨b1, 1, none⟩), .slice A1 so.length c1, .func (.func 90) #[] #[.pointer (some ⟨W.heap.size + 1, 0, none⟩)], .int .i64 ((so.length : Int) - 1 - k), mvV (rd_T24 so ((so.length : Int) - 1 - k)), undef, undef, undef, undef, undef, undef, undef, undef, undef, undef, undef, undef, undef, undef, undef, undef, undef, undef], []⟩ ∧
      X.heap[g5]? = some (.cells #[.bool (rd_T24 so ((so.length : Int) - 1 - k)).f0, .int .i64 (rd_T24 so ((so.length : Int) - 1 - k)).f1, .string (rd_T24 so ((so.length : Int) - 1 - k)).f2] 24 (0, 0)))
    (fun k a' => .ex fun g5 => .and (.pure _) (.blk _ _ _ _)) ?assign ?body ?done ?stop
  case assign =>
    rintro l' k X K ⟨hx0, hj, hbu, hno⟩ hk hK
    rw [zip_two]
    show Code.wpIn (Fence.wide.inRound l') (m - 1 - 1) Try.prog _ _ ⟨#[.func (.yield l) #[] #[], .pointer (some ⟨b1, 0, none⟩), .pointer (some ⟨b2, 0, none⟩), .pointer (some ⟨W.heap.size, 0, none⟩), undef, undef, .pointer (some ⟨b1, 1, none⟩), .slice A1 so.length c1, .func (.func 90) #[] #[.pointer (some ⟨W.heap.size + 1, 0, none⟩)], .int .i64 ((so.length : Int) - 1 - k), mvV (rd_T24 so ((so.length : Int) - 1 - k)), undef, undef, undef, undef, undef, undef, undef, undef, undef, undef, undef, undef, undef, undef, undef, undef, undef, undef], []⟩ X
    have hK' := Lib.hid hK
    clear hK
    unfold mvV
    generalize rd_T24 so ((so.length : Int) - 1 - k) = mv at *
    gi_wp2
    have hba := (Below.refl U.heap.size X).alloc hx0 (.cells #[.bool mv.f0, .int .i64 mv.f1, .string mv.f2] 24)
    exact hK'.out _ _ (keeps_below (below_alloc (Below.refl X.heap.size X) _)) hba ⟨Nat.le_trans hx0 (by simp), hJ _ _ hj (hba.mono (by omega)), hbu.trans hba, hno⟩ ⟨_, rfl, heap_alloc_new _ _⟩
  case body =>
    rintro l' k a' X ⟨hx0, hj, hbu, hno⟩ ⟨g5, rfl, h5⟩ hk
    obtain ⟨i, hi⟩ : ∃ i : Nat, (so.length : Int) - 1 - k = i := ⟨so.length - 1 - k, by omega⟩
    have hil : i < so.length := by omega
    have hik : i + k + 1 = so.length := by omega
    have hnext : so[i].f1 ≠ b → ∀ j, (hj : j < so.length) → so.length ≤ j + (k + 1) → so[j].f1 ≠ b := fun h j hj hjk => by
      by_cases e : j = i
      · subst e; exact h
      · exact hno j hj (by omega)
    have hlast : so[i].f1 = b → lastB su so b = so[i].f2 := fun h => last_some hil h (fun j hj hij => hno j hj (by omega))
    rw [hi] at h5 ⊢
    rw [rd24_get hil] at h5 ⊢
    generalize so[i] = mv at *
    have e3 : X.cell? ⟨W.heap.size, 0, none⟩ = some (.func (.yield l) #[] #[]) := (blk_cell (blk_same BY hbu) 0).trans rfl
    have e1 : X.cell? ⟨g5, 1, none⟩ = some (.int .i64 mv.f1) := (blk_cell h5 1).trans rfl
    have e2 : X.cell? ⟨g5, 2, none⟩ = some (.string mv.f2) := (blk_cell h5 2).trans rfl
    have e4 := (d1 X (HBU.trans (hbu.mono HBU.size))).2.2
    by_cases hb : mv.f1 = b
    · obtain ⟨fn, tmps, assign, body, hy, hR⟩ := hY X hj
      rw [hlast hb] at hy
      have hbb : (mv.f1 == b) = true := by simpa using hb
      have HKK := Lib.hid (show ∀ X', KK W.heap.size X X' → KeepsFrom U.heap.size X X' from fun X' h => (h.mono (by omega)).keeps)
      have HX0 := Lib.hid hx0
      clear hlast hnext hno hb hbu h5 hi hik hY hj
      gi_wp2
      refine ⟨fun _ => by omega, (round_in l' (m - 1 - 1 - 1) rfl hR).mono ?_⟩
      rintro e X' ⟨rfl, hjx, hkk⟩
      have HJX := Lib.hid hjx
      have HK2 := Lib.hid hkk
      clear hjx hkk e1 e2 e3 e4 hy hR
      gi_wp2
      exact ⟨HKK.out _ HK2.out, Nat.le_trans HX0.out HK2.out.1, rfl, HJX.out⟩
    · have hbb : (mv.f1 == b) = false := by simpa using hb
      have HN := Lib.hid (hnext hb)
      have HJ := Lib.hid hj
      have HBU2 := Lib.hid hbu
      clear hlast hnext hno hb hi hik hY hj hbu
      have HX0 := Lib.hid hx0
      gi_wp2_with fail
      refine ⟨(fun _ _ => trivial), ?_⟩
      clear hx0
      gi_wp2
      first | exact ⟨KeepsFrom.refl _ _, Below.refl _ _, HX0.out, HJ.out, HBU2.out, HN.out⟩ | exact ⟨KeepsFrom.refl _ _, Below.refl _ _, HJ.out, HBU2.out, HN.out⟩
  case done =>
    rintro D X hD ⟨hx0, hj, hbu, hno⟩ hdef
    gi_wp2_with fail
    have hlast : lastB su so b = rdOf ByteArray.empty su b := last_none (fun j hj => hno j hj (by omega))
    have hXd : Below w0.heap.size w0 X.drew := HBU.trans ((below_drew1 hbu).mono HBU.size)
    obtain ⟨ad, rfl, r0⟩ := Kd.at_string (Kd.C_below hr0 hXd) b hb0 hb1
    have e3 : X.drew.cell? ⟨W.heap.size, 0, none⟩ = some (.func (.yield l) #[] #[]) := (blk_cell (blk_same BY (below_drew1 hbu)) 0).trans rfl
    obtain ⟨e4, e5, e6⟩ := d1 X.drew hXd
    have hjd : J X.drew := hJ _ _ hj (below_drew1 (Below.refl W.heap.size X))
    have HDE := Lib.hid (show X.drew.heap[D]? = some (.deferred (some [])) from hdef)
    have HX0 := Lib.hid (show U.heap.size ≤ X.drew.heap.size from hx0)
    have HDL := Lib.hid (show D < X.drew.heap.size from blk_lt hdef)
    obtain ⟨fn, tmps, assign, body, hy, hR⟩ := hY X.drew hjd
    rw [hlast] at hy
    have HR := Lib.hid hR
    have HY := Lib.hid hy
    clear hj hbu hno hdef hjd hlast hy hR hx0
    refine XB.wide_tail (fun w' => w' = X.drew) 6 (by kernel_rfl) (by kernel_rfl) (by kernel_rfl) rfl ?_
    simp only [List.take_succ_cons, List.take_zero, List.drop_succ_cons, List.drop_zero]
    generalize X.drew = Y at *
    iterate 6 refine XB.quiet_op _ (by rfl) (by rintro w' rfl; go_simp; with_reducible rfl) ?_
    refine wpQuiet_nil ?_
    rintro Z rfl
    have hy := HY.out
    gi_wp2_with fail
    refine ⟨fun _ => by omega, HR.out.mono ?_⟩
    rintro e X' ⟨rfl, hjx, hkk⟩
    have hz2 := HX0.out
    have hdf : X'.heap[D]? = some (.deferred (some [])) := (hkk.2 D (by omega) HDL.out).trans HDE.out
    have hput := hJx _ _ hjx (Below.grown (Below.refl W.heap.size X') (grownBy_putObj' X' D (.deferred none)) (Nat.le_trans (by omega) hkk.1) (fun k e => by cases e; omega))
    have HP := Lib.hid hput
    have HDF := Lib.hid hdf
    clear hput hdf hjx hkk hy hz2 e3 e4 e5 e6 r0
    gi_wp2_with fail
    exact XB.M_ret (.inr rfl) HDF.out (results_none rfl _ _ _) ⟨⟨_, rfl⟩, HP.out⟩
  case stop =>
    rintro D c k X hD hk ⟨hx0, rfl, hjx⟩ hdef
    have hput := hJx _ _ hjx (Below.grown (Below.refl W.heap.size X) (grownBy_putObj' X D (.deferred none)) (by omega) (fun k e => by cases e; omega))
    have HP := Lib.hid hput
    have HDF := Lib.hid hdef
    clear hput hdef hjx
    gi_wp2_with fail
    exact XB.M_ret (.inl rfl) HDF.out (results_none rfl _ _ _) ⟨⟨_, rfl⟩, HP.out⟩
theorem latest_calls (A0 : Option Addr) (c0 : Nat) (n0 : Nat) (A1 : Option Addr) (c1 n1 : Nat) (b : Int) (w : World) : Calls Try.prog 49 #[.agg #[.slice A0 n0 c0, .slice A1 n1 c1], .int .i64 b] w fun e w' =>
    e = .returned (.func (.func 74) #[] #[.pointer (some ⟨w.heap.size, 0, none⟩), .pointer (some ⟨w.heap.size + 1, 0, none⟩)]) ∧ w' = (w.alloc (.cells #[.slice A0 n0 c0, .slice A1 n1 c1] 30)).alloc (.cells #[.int .i64 b] 3) := by
  go_enter Try.func49, Try.ntmps49
  go_wp2
  go_ret
  exact ⟨rfl, rfl⟩
def disk_Read.f (l0_0 : List ByteArray) (l0_1 : List (S24)) (a1 : Int) : Option (ByteArray × Int) := some (readB l0_0 l0_1 a1)
theorem vals_read {tmps : Array Value} {w : World} {g4 g5 : Nat} {s : ByteArray} {e : Int} (h4 : tmps.getD 4 undef = .pointer (some ⟨g4, 0, none⟩)) (h5 : tmps.getD 5 undef = .pointer (some ⟨g5, 0, none⟩)) (b4 : w.heap[g4]? = some (.cells #[.string s] 9 (0, 0))) (b5 : w.heap[g5]? = some (.cells #[.int .i64 e] 31 (0, 0))) :
    (results Try.f22 tmps).run Try.prog w = .ok (.tuple #[.string s, .int .i64 e]) w :=
  XB.resultsX_list (rs := [.cell 4 9, .cell 5 31]) rfl (by simp) (.one _ _ _ _ _ h4 b4 Try.underlying9 rfl (.one _ _ _ _ _ h5 b5 Try.underlying31 rfl .nil))
set_option maxRecDepth 100000 in
set_option maxHeartbeats 4000000 in
theorem disk_Read.calls (A0_0 : Option Addr) (c0_0 : Nat) (l0_0 : List ByteArray) (A0_1 : Option Addr) (c0_1 : Nat) (l0_1 : List (S24)) (a1 : Int) (r1 : ByteArray) (r2 : Int) (w : World) (hr0_0 : Kd.C Kd.string w A0_0 l0_0.length l0_0) (hc0_0 : l0_0.length ≤ c0_0) (hr0_1 : Kd.C k24 w A0_1 l0_1.length l0_1) (hc0_1 : l0_1.length ≤ c0_1) (h : disk_Read.f l0_0 l0_1 a1 = some (r1, r2)) :
    Calls Try.prog 22 #[.agg #[.slice A0_0 l0_0.length c0_0, .slice A0_1 l0_1.length c0_1], .int .i64 a1] w fun e w' => e = .returned (.tuple #[.string r1, .int .i64 r2]) ∧ Below w.heap.size w w' := by
  have H := Option.some.inj h
  clear h
  have HR0 := Lib.hid hr0_0
  have HR1 := Lib.hid hr0_1
  clear hr0_0 hr0_1
  have HRC := Lib.hid (fun W (hW : Below w.heap.size w W) => disk_Right.calls A0_0 c0_0 l0_0 A0_1 c0_1 l0_1 _ W (Kd.C_below HR0.out hW) hc0_0 (Kd.C_below HR1.out hW) hc0_1 rfl)
  unfold readB at H
  refine (callsIn_wide (n := 9)).1 (callsIn_of_wp_marks Try.func22 rfl trivial ?_ rfl)
  simp only [Try.ntmps22, List.size_toArray, List.length_cons, List.length_nil, Nat.reduceAdd, Nat.reduceSub, Array.replicate_succ, Array.replicate_zero, List.push_toArray, List.append_toArray, List.nil_append, List.cons_append]
  gi_wp2_with fail
  generalize hU : World.alloc (World.alloc (World.alloc w _) _) _ = U
  obtain ⟨b1, b2, b3⟩ : U.heap[w.heap.size]? = some (.cells #[.slice A0_0 l0_0.length c0_0, .slice A0_1 l0_1.length c0_1] 30 (0, 0)) ∧ U.heap[w.heap.size + 1]? = some (.cells #[.string ⟨#[]⟩] 9 (0, 0)) ∧ U.heap[w.heap.size + 2]? = some (.cells #[.int .i64 0] 31 (0, 0)) := by rw [← hU]; exact boxes3 w _ _ _
  have HB : Below w.heap.size w U := by rw [← hU]; exact below_alloc (below_alloc (below_alloc (Below.refl w.heap.size w) _) _) _
  clear hU
  refine ⟨trivial, (callsIn_wide.2 (HRC.out U HB)).mono ?_⟩
  rintro e W1 ⟨rfl, hb⟩
  have b1' := blk_same b1 hb
  have b2' := blk_same b2 hb
  have b3' := blk_same b3 hb
  have B1 := Lib.hid b1'
  have B2 := Lib.hid b2'
  have B3 := Lib.hid b3'
  have HB1 := Lib.hid (HB.trans (hb.mono HB.size))
  have k0 : W1.cell? ⟨w.heap.size, 0, none⟩ = some (.slice A0_0 l0_0.length c0_0) := (blk_cell b1' 0).trans rfl
  have k1 : W1.cell? ⟨w.heap.size, 1, none⟩ = some (.slice A0_1 l0_1.length c0_1) := (blk_cell b1' 1).trans rfl
  have j2 : W1.cell? ⟨w.heap.size + 1, 0, none⟩ = some (.string ⟨#[]⟩) := (blk_cell b2' 0).trans rfl
  have j3 : W1.cell? ⟨w.heap.size + 2, 0, none⟩ = some (.int .i64 0) := (blk_cell b3' 0).trans rfl
  have f2 := blk_frozen b2' 0
  have f3 := blk_frozen b3' 0
  clear b1 b2 b3 b1' b2' b3' hb HB U
  by_cases hok : rightB l0_0 l0_1 = true ∧ 0 ≤ a1 ∧ a1 < l0_0.length
  · rw [if_pos hok] at H
    simp only [Prod.mk.injEq] at H
    obtain ⟨rfl, rfl⟩ := H
    obtain ⟨hr, h0, h1⟩ := hok
    have HS := right_iff.1 hr
    have hso : l0_1.length ≤ 1000000 := by have := HS.few; omega
    rw [hr]
    clear HS hr j2 j3 f2 f3
    gi_wp2_with fail
    refine ⟨trivial, (callsIn_wide.2 (latest_calls A0_0 c0_0 l0_0.length A0_1 c0_1 l0_1.length a1 W1)).mono ?_⟩
    rintro e W2 ⟨rfl, hW2⟩
    have hb2 : Below W1.heap.size W1 W2 := by rw [hW2]; exact below_alloc (below_alloc (Below.refl W1.heap.size W1) _) _
    have L1 : W2.heap[W1.heap.size]? = some (.cells #[.slice A0_0 l0_0.length c0_0, .slice A0_1 l0_1.length c0_1] 30 (0, 0)) := by rw [hW2]; exact heap_alloc2_old W1 _ _
    have L2 : W2.heap[W1.heap.size + 1]? = some (.cells #[.int .i64 a1] 3 (0, 0)) := by rw [hW2]; exact heap_alloc2_new W1 _ _
    have C2 := blk_same B2.out hb2
    have C3 := blk_same B3.out hb2
    have HBW := HB1.out.trans (hb2.mono HB1.out.size)
    have z1 : w.heap.size + 2 < W2.heap.size := blk_lt C3
    have hseq := latest_once 8 (by omega) W2 W1.heap.size (W1.heap.size + 1) A0_0 c0_0 l0_0 A0_1 c0_1 l0_1 a1 L1 L2 (Kd.C_below HR0.out HBW) (Kd.C_below HR1.out HBW) hc0_1 hso h0 h1
    obtain ⟨LB, hLB⟩ : ∃ LB, LB = lastB l0_0 l0_1 a1 := ⟨_, rfl⟩
    rw [← hLB] at hseq
    have HLB := Lib.hid hLB
    clear hLB
    have HSEQ := Lib.hid hseq
    have HC2 := Lib.hid C2
    have HC3 := Lib.hid C3
    have HHB := Lib.hid HBW
    clear hseq C2 C3 HBW hb2 hW2 L1 L2 k0 k1
    generalize W1.heap.size = gl at *
    clear B1 B2 B3 HB1 W1
    gi_wp2_with fail
    refine wp_range1_once (n := 9) (F := Fence.wide) rfl (by omega) (gf := 74) (lb := #[.pointer (some ⟨gl, 0, none⟩), .pointer (some ⟨gl + 1, 0, none⟩)]) rfl trivial (enters_of Try.func74 (by kernel_rfl) rfl) (.string LB) HSEQ.out (fun A B h k => h.trans k) (Below.refl _ _) (by simp)
      (fun X => X.heap[w.heap.size + 1]? = some (.cells #[.string ⟨#[]⟩] 9 (0, 0)) ∧ X.heap[w.heap.size + 2]? = some (.cells #[.int .i64 0] 31 (0, 0)) ∧ Below w.heap.size w X)
      (fun X => X.heap[w.heap.size + 1]? = some (.cells #[.string LB] 9 (0, 0)) ∧ X.heap[w.heap.size + 2]? = some (.cells #[.int .i64 0] 31 (0, 0)) ∧ Below w.heap.size w X)
      (fun A B h k => ⟨(k.block _ (by omega)).trans h.1, (k.block _ (by omega)).trans h.2.1, h.2.2.trans (k.mono (by omega))⟩)
      (fun A B h k => ⟨(k.block _ (by omega)).trans h.1, (k.block _ (by omega)).trans h.2.1, h.2.2.trans (k.mono (by omega))⟩)
      ⟨HC2.out, HC3.out, HHB.out⟩ ?body ?stop
    case body =>
      rintro l X ⟨g1, g2, gB⟩
      have q1 : X.cell? ⟨w.heap.size + 1, 0, none⟩ = some (.string ⟨#[]⟩) := (blk_cell g1 0).trans rfl
      have q2 : X.cell? ⟨w.heap.size + 1 + 1, 0, none⟩ = some (.int .i64 0) := (blk_cell g2 0).trans rfl
      have q3 := blk_frozen g1 0
      have q4 := blk_frozen g2 0
      have G1 := Lib.hid g1
      have G2 := Lib.hid g2
      have GB := Lib.hid gB
      have Z1 := Lib.hid z1
      clear g1 g2 gB z1
      gi_wp2
      have z1 := Z1.out
      exact ⟨(KK.set ⟨w.heap.size + 1, 0, none⟩ _ (by show w.heap.size + 1 < _; omega)).trans (KK.set ⟨w.heap.size + 2, 0, none⟩ _ (by show w.heap.size + 2 < _; omega)), blk_far (blk_set G1.out 0 _) (by show w.heap.size + 1 ≠ w.heap.size + 2; omega) _, blk_set (blk_far G2.out (by show w.heap.size + 2 ≠ w.heap.size + 1; omega) _) 0 _, (GB.out.setCell (by show w.heap.size ≤ w.heap.size + 1; omega) _).setCell (by show w.heap.size ≤ w.heap.size + 2; omega) _⟩
    case stop =>
      rintro D X hD ⟨g1, g2, gB⟩ hdef
      have hne1 : w.heap.size + 1 ≠ D := by omega
      have hne2 : w.heap.size + 2 ≠ D := by omega
      have P1 := Lib.hid (show (X.putObj D (.deferred none)).heap[w.heap.size + 1]? = some (.cells #[.string LB] 9 (0, 0)) from (World.putObj_heap_other hne1).trans g1)
      have P2 := Lib.hid (show (X.putObj D (.deferred none)).heap[w.heap.size + 2]? = some (.cells #[.int .i64 0] 31 (0, 0)) from (World.putObj_heap_other hne2).trans g2)
      have P3 := Lib.hid (show Below w.heap.size w (X.putObj D (.deferred none)) from gB.trans (Below.grown (Below.refl w.heap.size X) (grownBy_putObj' X D _) gB.size (fun k e => by cases e; omega)))
      have HDF := Lib.hid hdef
      clear g1 g2 gB hdef
      gi_wp2
      exact XB.M_ret (.inl rfl) HDF.out (vals_read rfl rfl P1.out P2.out) ⟨by rw [HLB.out], P3.out⟩
  · rw [if_neg hok] at H
    simp only [Prod.mk.injEq] at H
    obtain ⟨rfl, rfl⟩ := H
    have h3 : rightB l0_0 l0_1 = false ∨ (rightB l0_0 l0_1 = true ∧ a1 < 0) ∨ (rightB l0_0 l0_1 = true ∧ ¬ a1 < 0 ∧ (l0_0.length : Int) ≤ a1) := by
      cases hr : rightB l0_0 l0_1
      · exact .inl rfl
      · rw [hr] at hok
        simp only [true_and] at hok
        by_cases ha : a1 < 0
        · exact .inr (.inl ⟨rfl, ha⟩)
        · exact .inr (.inr ⟨rfl, ha, by omega⟩)
    clear hok
    rcases h3 with hr | ⟨hr, ha⟩ | ⟨hr, ha, hb⟩ <;> (
      rw [hr]
      clear hr
      gi_wp2
      exact XB.M_of (bodyPost_ret (vals_read rfl rfl (blk_far (blk_set B2.out 0 _) (by show w.heap.size + 1 ≠ w.heap.size + 2; omega) _) (blk_set (blk_far B3.out (by show w.heap.size + 2 ≠ w.heap.size + 1; omega) _) 0 _)) rfl ⟨rfl, (HB1.out.setCell (by show w.heap.size ≤ w.heap.size + 1; omega) _).setCell (by show w.heap.size ≤ w.heap.size + 2; omega) _⟩))
end Go.Proofs.Ytcfinlmocgbnbaa.Pr
end
section
namespace Go.Proofs.Ytcfinlmocgbnbaa.Pr
open Go.RowKit Go.Shelf Go.Proofs.Ytcfinlmocgbnbaa.XB Go.Proofs.YtcfinlmocgbnbaaW.PrintWords
set_option linter.unusedVariables false
set_option linter.unusedSimpArgs false
def VF (w0 : World) (b1 b2 : Nat) (cs1 cs2 : Array Value) (W : World) : Prop := W.heap[b1]? = some (.cells cs1 89 (0, 0)) ∧ W.heap[b2]? = some (.cells cs2 3 (0, 0)) ∧ Below w0.heap.size w0 W
def VT (A B : World) : Prop := Below A.heap.size A B
def VK (w0 : World) (b1 b2 : Nat) (cs1 cs2 : Array Value) (A B : World) : Prop := VF w0 b1 b2 cs1 cs2 A → VF w0 b1 b2 cs1 cs2 B
theorem VF.below {w0 : World} {b1 b2 : Nat} {cs1 cs2 : Array Value} {A B : World} (h : VF w0 b1 b2 cs1 cs2 A) (hb : Below A.heap.size A B) : VF w0 b1 b2 cs1 cs2 B :=
  ⟨blk_same h.1 hb, blk_same h.2.1 hb, h.2.2.trans (hb.mono h.2.2.size)⟩
theorem VF.own {w0 : World} {b1 b2 : Nat} {cs1 cs2 : Array Value} {n : Nat} (hn : w0.heap.size ≤ n) : OwnW n (VF w0 b1 b2 cs1 cs2) := .and (.blk _ _ _ _) (.and (.blk _ _ _ _) (.below (Nat.le_refl _) hn))
theorem VK.put {w0 : World} {b1 b2 : Nat} {cs1 cs2 : Array Value} {n : Nat} (hn : w0.heap.size ≤ n) (W : World) (l : Nat) (o o' : Obj) (hl : n ≤ l) (h : W.heap[l]? = some o) (ho : o.isCells = false) : VK w0 b1 b2 cs1 cs2 W (W.putObj l o') :=
  fun hF => (VF.own hn).putObj _ hF hl h ho
theorem wrap3 {p k : Nat} (h : p ≤ 1000) (h2 : k ≤ 1000) : IntKind.i64.wrap (IntKind.i64.wrap (2 + IntKind.i64.wrap (p : Int)) + (k : Int)) = ((2 + p + k : Nat) : Int) := by
  have e1 : IntKind.i64.wrap (p : Int) = (p : Int) := by rw [Go.Proofs.YtcfinlmocgbnbaaW.PrintLast.i64_w]; unfold wrap64; omega
  rw [e1]
  have e2 : IntKind.i64.wrap (2 + (p : Int)) = 2 + (p : Int) := by rw [Go.Proofs.YtcfinlmocgbnbaaW.PrintLast.i64_w]; unfold wrap64; omega
  rw [e2, Go.Proofs.YtcfinlmocgbnbaaW.PrintLast.i64_w]
  unfold wrap64
  omega
set_option maxRecDepth 100000 in
set_option maxHeartbeats 4000000 in
theorem vblocks_seq2 (m : Nat) (hm : 5 ≤ m) (w0 : World) (b1 b2 : Nat) {su : List ByteArray} {A0 A1 : Option Addr} {c0 c1 wd half : Nat} {sq hf ln : Int}
    (hsu : Kd.C Kd.string w0 A0 su.length su) (hc0 : su.length ≤ c0) (hso : Kd.C k24 w0 A1 0 ([] : List S24)) (hw : vault_book_wide.f su [] sq hf ln = some (wd : Int)) (hwd : 2 + 2 * wd ≤ su.length) (hl : su.length ≤ 1000) (hh : half ≤ 1) {p : Nat} (hp : half * wd = p) :
    IterSeq Fence.wide m Try.prog 81 #[.pointer (some ⟨b1, 0, none⟩), .pointer (some ⟨b2, 0, none⟩)] (fun k => #[.int .i64 ((2 + p + k : Nat) : Int), .string (rdOf ByteArray.empty su ((2 + p + k : Nat) : Int))]) wd (VF w0 b1 b2 #[.slice A0 su.length c0, .slice A1 0 c1, .int .i64 sq, .int .i64 hf, .int .i64 ln] #[.int .i64 (half : Int)]) VT (VK w0 b1 b2 #[.slice A0 su.length c0, .slice A1 0 c1, .int .i64 sq, .int .i64 hf, .int .i64 ln] #[.int .i64 (half : Int)]) := by
  have hmi : (half : Int) * (wd : Int) = (p : Int) := by rw [← hp]; exact (Int.natCast_mul half wd).symm
  have hp1 : p ≤ wd := by rw [← hp]; exact Nat.le_trans (Nat.mul_le_mul_right wd hh) (by omega)
  intro l J Jx W hS hJT hJxT hY h0
  have HM := Lib.hid (show ∀ W, Below w0.heap.size w0 W → Calls Try.prog 79 #[.agg #[.slice A0 su.length c0, .slice A1 0 c1, .int .i64 sq, .int .i64 hf, .int .i64 ln]] W fun e w' => e = .returned (.int .i64 (wd : Int)) ∧ Below W.heap.size W w' from fun W h => vault_book_wide.calls _ _ su _ c1 [] sq hf ln _ W (Kd.C_below hsu h) hc0 (Kd.C_below hso h) (Nat.zero_le _) hw)
  have d1 : ∀ X, VF w0 b1 b2 #[.slice A0 su.length c0, .slice A1 0 c1, .int .i64 sq, .int .i64 hf, .int .i64 ln] #[.int .i64 (half : Int)] X → X.cell? ⟨b1, 0, none⟩ = some (.slice A0 su.length c0) ∧ X.cell? ⟨b1, 1, none⟩ = some (.slice A1 0 c1) ∧ X.cell? ⟨b1, 2, none⟩ = some (.int .i64 sq) ∧ X.cell? ⟨b1, 3, none⟩ = some (.int .i64 hf) ∧ X.cell? ⟨b1, 4, none⟩ = some (.int .i64 ln) ∧ X.cell? ⟨b2, 0, none⟩ = some (.int .i64 (half : Int)) :=
    fun X hX => ⟨(blk_cell hX.1 0).trans rfl, (blk_cell hX.1 1).trans rfl, (blk_cell hX.1 2).trans rfl, (blk_cell hX.1 3).trans rfl, (blk_cell hX.1 4).trans rfl, (blk_cell hX.2.1 0).trans rfl⟩
  obtain ⟨x0, x1, x2, x3, x4, x5⟩ := d1 W hS
  refine callsIn_of_wp Try.func81 rfl trivial ?_ rfl
  simp only [Try.ntmps81, List.size_toArray, List.length_cons, List.length_nil, Nat.reduceAdd, Nat.reduceSub, Array.replicate_succ, Array.replicate_zero, List.push_toArray, List.append_toArray, List.nil_append, List.cons_append]
  gi_wp2_with fail
  refine ⟨trivial, (fun _ => by omega), (callsIn_wide.2 (HM.out _ hS.2.2)).mono ?_⟩
  rintro e W1 ⟨rfl, hb⟩
  have hS1 : VF w0 b1 b2 #[.slice A0 su.length c0, .slice A1 0 c1, .int .i64 sq, .int .i64 hf, .int .i64 ln] #[.int .i64 (half : Int)] W1 := hS.below hb
  have h01 := hJT 0 W W1 h0 hb
  clear x0 x1 x2 x3 x4 x5 h0 hb
  gi_wp2_with fail
  gi_loopw [8] (fun v wr => ∃ k : Nat, k ≤ wd ∧ v = .int .i64 (k : Int) ∧ J k wr ∧ VF w0 b1 b2 #[.slice A0 su.length c0, .slice A1 0 c1, .int .i64 sq, .int .i64 hf, .int .i64 ln] #[.int .i64 (half : Int)] wr) (fun v _ => wd - (intOf v).toNat)
  case atStart => exact ⟨0, by omega, rfl, h01, hS1⟩
  case round =>
    obtain ⟨k, hk, rfl, hJs, hB⟩ := hrel
    by_cases hlt : k < wd
    · obtain ⟨x0, x1, x2, x3, x4, x5⟩ := d1 wr hB
      gi_wp2_with fail
      have y0 := fun q : XB.In (Below wr.heap.size wr) => (d1 q.w (hB.below q.h)).1
      have y1 := fun q : XB.In (Below wr.heap.size wr) => (d1 q.w (hB.below q.h)).2.1
      have y2 := fun q : XB.In (Below wr.heap.size wr) => (d1 q.w (hB.below q.h)).2.2.1
      have y3 := fun q : XB.In (Below wr.heap.size wr) => (d1 q.w (hB.below q.h)).2.2.2.1
      have y4 := fun q : XB.In (Below wr.heap.size wr) => (d1 q.w (hB.below q.h)).2.2.2.2.1
      have y5 := fun q : XB.In (Below wr.heap.size wr) => (d1 q.w (hB.below q.h)).2.2.2.2.2
      have ym := fun q : XB.In (Below wr.heap.size wr) => HM.out q.w (hB.below q.h).2.2
      have HD := Lib.hid d1
      have HJ := Lib.hid hJs
      have HY2 := Lib.hid hY
      have HT2 := Lib.hid hJT
      clear d1 hJs hY hJT hJxT x0 x1 x2 x3 x4 x5
      haveI hne : Nonempty (XB.In (Below wr.heap.size wr)) := ⟨⟨wr.drew, below_drew1 (Below.refl _ _)⟩⟩
      refine XB.wide_all (fun w' => ∃ q : XB.In (Below wr.heap.size wr), w' = q.w) (by kernel_rfl) (by kernel_rfl) (by kernel_rfl) ⟨⟨wr.drew, below_drew1 (Below.refl _ _)⟩, rfl⟩ ?_
      iterate 8 quiet_step (first | (go_at_call 79; with_reducible exact XB.in_belowB (ym _)))
      refine wpQuiet_nil ?_
      rintro Y ⟨⟨_, hq⟩, rfl⟩
      have hp2 : p ≤ 1000 := by omega
      have hk2 : k ≤ 1000 := by omega
      rw [wrap3 hp2 hk2]
      clear y0 y1 y2 y3 y4 y5 ym hne
      obtain ⟨i, hi⟩ : ∃ i : Nat, 2 + p + k = i := ⟨_, rfl⟩
      have hin : i < su.length := by omega
      have hYB : VF w0 b1 b2 #[.slice A0 su.length c0, .slice A1 0 c1, .int .i64 sq, .int .i64 hf, .int .i64 ln] #[.int .i64 (half : Int)] Y := hB.below hq
      have hjY := HT2.out k wr Y HJ.out hq
      obtain ⟨x0, x1, x2, x3, x4, x5⟩ := HD.out Y hYB
      obtain ⟨ad, hA, r0⟩ := Kd.at_string (Kd.C_below hsu hYB.2.2) (i : Int) (by omega) (by omega)
      rw [hA] at x0
      simp only [Int.toNat_natCast] at r0
      obtain ⟨fn, tmps, assign, body, hy, hR⟩ := HY2.out k Y hjY hlt
      rw [hi] at hy ⊢
      have hi0 : (0 : Int) ≤ i := by omega
      have hi1 : (i : Int) < su.length := by omega
      have hw1 : wrap64 ((k : Int) + 1) = ((k + 1 : Nat) : Int) := by unfold wrap64; omega
      have HYB := Lib.hid hYB
      have HI2 := Lib.hid hk
      clear hjY hsu hso hw HM HD HY2 HT2 HJ hA hi hmi hYB
      gi_wp2_with fail
      refine ⟨fun _ => by omega, hR.mono ?_⟩
      rintro e W3 (⟨rfl, hJ3, hk3⟩ | ⟨rfl, hJx3⟩)
      · have HW := Lib.hid hw1
        clear hw1 x0 x1 x2 x3 x4 x5 r0
        gi_wp2_with fail
        go_roundw
        case rel => exact ⟨k + 1, by omega, congrArg (Value.int .i64) (by first | exact HW.out | omega), hJ3, hk3 HYB.out⟩
        case measure => simp [intOf]; omega
      · gi_wp2_with fail
        refine bodyPost_ret (results_none rfl _ _ _) rfl ?_
        exact ⟨⟨_, rfl⟩, .inr ⟨k + 1, by omega, hJx3⟩⟩
    · obtain rfl : k = wd := by omega
      gi_wp2_with fail
      go_end0
      exact ⟨⟨_, rfl⟩, .inl hJs⟩
theorem wp_range_seq {n : Nat} {P : Program} {g : Operand} {ps : Array Tmp} {assign body : Code} {Q : Exit → Act → World → Prop} {tmps : Array Value} {w : World}
    (hn : 1 ≤ n) {gf : Nat} {lb : Array Value} (hg : ({ tmps := tmps, defers := [] } : Act).eval g = .func (.func gf) #[] lb) (eg : ∀ args w, (callFunc gf args).run P w = .ok (.enter gf args) w)
    {vals : Nat → Array Value} {N : Nat} {Start : World → Prop} {Tch Kp : World → World → Prop} (hseq : IterSeq Fence.wide (n - 1) P gf lb vals N Start Tch Kp)
    (hStart : OwnW w.heap.size Start) (hs0 : Start w) (hT : ∀ A B, Tch A B → KeepsFrom w.heap.size A B)
    (hKt : ∀ {A B C : World}, Kp A B → Kp B C → Kp A C) (hKb : ∀ (W : World) (l : Nat) (o o' : Obj), w.heap.size ≤ l → W.heap[l]? = some o → o.isCells = false → Kp W (W.putObj l o')) (hps : ∀ k, (vals k).size = ps.size)
    (I : Nat → World → Prop) (Ix : Code → Nat → World → Prop) (hI : ∀ k, OwnW w.heap.size (I k)) (hIx : ∀ c k, OwnW w.heap.size (Ix c k))
    (hIT : ∀ k A B, I k A → Tch A B → I k B) (hIxT : ∀ c k A B, Ix c k A → Tch A B → Ix c k B) (h0 : I 0 w) (a₁ : Nat → Act)
    (hassign : ∀ (l k : Nat) (W : World) (K : Act → World → Prop), K (a₁ k) W →
      assign.wpIn (Fence.wide.inRound l) (n - 1 - 1) P (Exit.then K (fun _ _ _ => False)) { tmps := (ps.zip (vals k)).foldl (fun t (p, v) => t.setIfInBounds p v) tmps, defers := [] } W)
    (hbody : ∀ (l k : Nat) (W : World), I k W → k < N → body.wpIn (Fence.wide.inRound l) (n - 1 - 1) P (seqPost w.heap.size Kp I Ix (k + 1) W) (a₁ k) W)
    (hdone : ∀ (D : Nat) (W : World), w.heap.size ≤ D → I N W → W.heap[D]? = some (.deferred (some [])) → Q .normal { tmps := tmps, defers := [{ target := .collected D, args := #[] }] } W)
    (hstop : ∀ (D : Nat) (c : Code) (k : Nat) (W : World), w.heap.size ≤ D → k ≤ N → Ix c k W → W.heap[D]? = some (.deferred (some [])) → c.wp P Q { tmps := tmps, defers := [{ target := .collected D, args := #[] }] } W) :
    (Code.rangeFunc g ps assign body).wp P Q { tmps := tmps, defers := [] } w :=
  wpIn_wide.1 (wpIn_rangeFunc_seq (n := n) rfl hn hg trivial eg hseq hStart hs0 hT hKt hKb hps I Ix hI hIx hIT hIxT h0 a₁ hassign hbody hdone (fun D c k W h1 h2 h3 h4 => wpIn_wide.2 (hstop D c k W h1 h2 h3 h4)))
end Go.Proofs.Ytcfinlmocgbnbaa.Pr
end
section
namespace Go.Proofs.Ytcfinlmocgbnbaa.Pr
open Go.RowKit Go.Shelf Go.Proofs.Ytcfinlmocgbnbaa.XB Go.Proofs.YtcfinlmocgbnbaaW.PrintWords
attribute [local go_sem] Oper.semAt_some
set_option linter.unusedVariables false
set_option linter.unusedSimpArgs false
variable {F : Fence} {n : Nat} {P : Program}
theorem assign_two (l rid p q d ty : Nat) (pos : String) (x y : Value) (tmps : Array Value) (W : World) (K : Act → World → Prop) (hq : q < tmps.size)
    (hK : K { tmps := ((tmps.setIfInBounds p x).setIfInBounds q y).setIfInBounds d y, defers := [] } W) :
    (Code.region rid #[{ dst := some d, op := Op.assign (Operand.tmp q), type := ty, pos := pos, after := #[], guard := none }] false).wpIn (F.inRound l) n P (Exit.then K (fun _ _ _ => False)) { tmps := ((#[p, q] : Array Tmp).zip #[x, y]).foldl (fun t (p, v) => t.setIfInBounds p v) tmps, defers := [] } W := by
  rw [zip_two]
  have hv : (((tmps.setIfInBounds p x).setIfInBounds q y)[q]?).getD undef = y := by simp [hq]
  have hv2 : ((tmps.setIfInBounds p x).setIfInBounds q y).getD q undef = y := by simpa using hv
  generalize (tmps.setIfInBounds p x).setIfInBounds q y = t at *
  gi_wp2
  exact hK
theorem assign_both (l r1 r2 p q d1 d2 ty1 ty2 : Nat) (pos1 pos2 : String) (x y : Value) (tmps : Array Value) (W : World) (K : Act → World → Prop) (hp : p < tmps.size) (hq : q < tmps.size) (hpq : q ≠ p) (hd : d1 ≠ q)
    (hK : K { tmps := (((tmps.setIfInBounds p x).setIfInBounds q y).setIfInBounds d1 x).setIfInBounds d2 y, defers := [] } W) :
    ((Code.region r1 #[{ dst := some d1, op := Op.assign (Operand.tmp p), type := ty1, pos := pos1, after := #[], guard := none }] false).seq (Code.region r2 #[{ dst := some d2, op := Op.assign (Operand.tmp q), type := ty2, pos := pos2, after := #[], guard := none }] false)).wpIn (F.inRound l) n P (Exit.then K (fun _ _ _ => False)) { tmps := ((#[p, q] : Array Tmp).zip #[x, y]).foldl (fun t (p, v) => t.setIfInBounds p v) tmps, defers := [] } W := by
  rw [zip_two]
  have hv : (((tmps.setIfInBounds p x).setIfInBounds q y)[p]?).getD undef = x := by simp [hp, hpq]
  have hv2 : ((tmps.setIfInBounds p x).setIfInBounds q y).getD p undef = x := by simpa using hv
  have hw : ((((tmps.setIfInBounds p x).setIfInBounds q y).setIfInBounds d1 x)[q]?).getD undef = y := by simp [hq, hd]
  have hw2 : (((tmps.setIfInBounds p x).setIfInBounds q y).setIfInBounds d1 x).getD q undef = y := by simpa using hw
  generalize (tmps.setIfInBounds p x).setIfInBounds q y = t at *
  gi_wp2
  exact hK
theorem wp_range2b {p q d rid ty : Nat} {pos : String} {body : Code} {g : Operand} {Q : Exit → Act → World → Prop} {tmps : Array Value} {w : World}
    (hn : 1 ≤ n) {gf : Nat} {lb : Array Value} (hg : ({ tmps := tmps, defers := [] } : Act).eval g = .func (.func gf) #[] lb) (eg : ∀ args w, (callFunc gf args).run P w = .ok (.enter gf args) w)
    (x y : Nat → Value) (N : Nat) {Start : World → Prop} {Tch Kp : World → World → Prop} (hseq : IterSeq Fence.wide (n - 1) P gf lb (fun k => #[x k, y k]) N Start Tch Kp)
    (hStart : OwnW w.heap.size Start) (hs0 : Start w) (hT : ∀ A B, Tch A B → KeepsFrom w.heap.size A B)
    (hKt : ∀ {A B C : World}, Kp A B → Kp B C → Kp A C) (hKb : ∀ (W : World) (l : Nat) (o o' : Obj), w.heap.size ≤ l → W.heap[l]? = some o → o.isCells = false → Kp W (W.putObj l o')) (hq : q < tmps.size)
    (I : Nat → World → Prop) (Ix : Code → Nat → World → Prop) (hI : ∀ k, OwnW w.heap.size (I k)) (hIx : ∀ c k, OwnW w.heap.size (Ix c k))
    (hIT : ∀ k A B, I k A → Tch A B → I k B) (hIxT : ∀ c k A B, Ix c k A → Tch A B → Ix c k B) (h0 : I 0 w)
    (hbody : ∀ (l k : Nat) (W : World), I k W → k < N → body.wpIn (Fence.wide.inRound l) (n - 1 - 1) P (seqPost w.heap.size Kp I Ix (k + 1) W) { tmps := ((tmps.setIfInBounds p (x k)).setIfInBounds q (y k)).setIfInBounds d (y k), defers := [] } W)
    (hdone : ∀ (D : Nat) (W : World), w.heap.size ≤ D → I N W → W.heap[D]? = some (.deferred (some [])) → Q .normal { tmps := tmps, defers := [{ target := .collected D, args := #[] }] } W)
    (hstop : ∀ (D : Nat) (c : Code) (k : Nat) (W : World), w.heap.size ≤ D → k ≤ N → Ix c k W → W.heap[D]? = some (.deferred (some [])) → c.wp P Q { tmps := tmps, defers := [{ target := .collected D, args := #[] }] } W) :
    (Code.rangeFunc g #[p, q] (Code.region rid #[{ dst := some d, op := Op.assign (Operand.tmp q), type := ty, pos := pos, after := #[], guard := none }] false) body).wp P Q { tmps := tmps, defers := [] } w :=
  wp_range_seq hn hg eg hseq hStart hs0 hT hKt hKb (fun _ => rfl) I Ix hI hIx hIT hIxT h0 _ (fun l k W K hK => assign_two l rid p q d ty pos (x k) (y k) tmps W K hq hK) hbody hdone hstop
theorem wp_range2 {p q d1 d2 r1 r2 ty1 ty2 : Nat} {pos1 pos2 : String} {body : Code} {g : Operand} {Q : Exit → Act → World → Prop} {tmps : Array Value} {w : World}
    (hn : 1 ≤ n) {gf : Nat} {lb : Array Value} (hg : ({ tmps := tmps, defers := [] } : Act).eval g = .func (.func gf) #[] lb) (eg : ∀ args w, (callFunc gf args).run P w = .ok (.enter gf args) w)
    (x y : Nat → Value) (N : Nat) {Start : World → Prop} {Tch Kp : World → World → Prop} (hseq : IterSeq Fence.wide (n - 1) P gf lb (fun k => #[x k, y k]) N Start Tch Kp)
    (hStart : OwnW w.heap.size Start) (hs0 : Start w) (hT : ∀ A B, Tch A B → KeepsFrom w.heap.size A B)
    (hKt : ∀ {A B C : World}, Kp A B → Kp B C → Kp A C) (hKb : ∀ (W : World) (l : Nat) (o o' : Obj), w.heap.size ≤ l → W.heap[l]? = some o → o.isCells = false → Kp W (W.putObj l o')) (hp : p < tmps.size) (hq : q < tmps.size) (hpq : q ≠ p) (hd : d1 ≠ q)
    (I : Nat → World → Prop) (Ix : Code → Nat → World → Prop) (hI : ∀ k, OwnW w.heap.size (I k)) (hIx : ∀ c k, OwnW w.heap.size (Ix c k))
    (hIT : ∀ k A B, I k A → Tch A B → I k B) (hIxT : ∀ c k A B, Ix c k A → Tch A B → Ix c k B) (h0 : I 0 w)
    (hbody : ∀ (l k : Nat) (W : World), I k W → k < N → body.wpIn (Fence.wide.inRound l) (n - 1 - 1) P (seqPost w.heap.size Kp I Ix (k + 1) W) { tmps := (((tmps.setIfInBounds p (x k)).setIfInBounds q (y k)).setIfInBounds d1 (x k)).setIfInBounds d2 (y k), defers := [] } W)
    (hdone : ∀ (D : Nat) (W : World), w.heap.size ≤ D → I N W → W.heap[D]? = some (.deferred (some [])) → Q .normal { tmps := tmps, defers := [{ target := .collected D, args := #[] }] } W)
    (hstop : ∀ (D : Nat) (c : Code) (k : Nat) (W : World), w.heap.size ≤ D → k ≤ N → Ix c k W → W.heap[D]? = some (.deferred (some [])) → c.wp P Q { tmps := tmps, defers := [{ target := .collected D, args := #[] }] } W) :
    (Code.rangeFunc g #[p, q] ((Code.region r1 #[{ dst := some d1, op := Op.assign (Operand.tmp p), type := ty1, pos := pos1, after := #[], guard := none }] false).seq (Code.region r2 #[{ dst := some d2, op := Op.assign (Operand.tmp q), type := ty2, pos := pos2, after := #[], guard := none }] false)) body).wp P Q { tmps := tmps, defers := [] } w :=
  wp_range_seq hn hg eg hseq hStart hs0 hT hKt hKb (fun _ => rfl) I Ix hI hIx hIT hIxT h0 _ (fun l k W K hK => assign_both l r1 r2 p q d1 d2 ty1 ty2 pos1 pos2 (x k) (y k) tmps W K hp hq hpq hd hK) hbody hdone hstop
end Go.Proofs.Ytcfinlmocgbnbaa.Pr
end
section
namespace Go.Proofs
open Go.Shelf
def Try.lays166_ren : Go.Shelf.Ren := ⟨fun | 105 => 40 | 212 => 65 | 99 => 66 | 165 => 67 | 166 => 68 | 170 => 69 | 169 => 70 | 263 => 85 | 264 => 86 | 206 => 87 | 240 => 88 | 241 => 89 | 276 => 96 | 277 => 97 | n => n, fun | 9 => 9 | 3 => 3 | 4 => 4 | 20 => 20 | 0 => 0 | 46 => 97 | 109 => 98 | 5 => 5 | 72 => 103 | 76 => 107 | 51 => 122 | 146 => 123 | 53 => 125 | 148 => 126 | 70 => 101 | 37 => 49 | 75 => 106 | 127 => 128 | 164 => 133 | 80 => 90 | n => n, fun | n => n⟩
theorem Try.lays166 : Go.Proofs.Lays.n166 Try.prog Try.lays166_ren := {
  mixed := by kernel_rfl
  f166 := Try.func68.trans (congrArg some (by kernel_rfl))
  f240 := Try.func88.trans (congrArg some (by kernel_rfl))
  f276 := Try.func96.trans (congrArg some (by kernel_rfl))
  t0 := Try.underlying0
  a0 := Try.isAgg0
  z0 := Try.sizeOf0
  v0 := Try.zeroValue0
  t3 := Try.underlying3
  a3 := Try.isAgg3
  z3 := Try.sizeOf3
  v3 := Try.zeroValue3
  t4 := Try.underlying4
  a4 := Try.isAgg4
  z4 := Try.sizeOf4
  v4 := Try.zeroValue4
  t9 := Try.underlying9
  a9 := Try.isAgg9
  z9 := Try.sizeOf9
  v9 := Try.zeroValue9
  t20 := Try.underlying20
  a20 := Try.isAgg20
  z20 := Try.sizeOf20
  v20 := Try.zeroValue20
  t37 := Try.underlying49
  a37 := Try.isAgg49
  z37 := Try.sizeOf49
  v37 := Try.zeroValue49
  t70 := Try.underlying101
  a70 := Try.isAgg101
  z70 := Try.sizeOf101
  v70 := Try.zeroValue101
  t72 := Try.underlying103
  a72 := Try.isAgg103
  z72 := Try.sizeOf103
  v72 := Try.zeroValue103
  t75 := Try.underlying106
  a75 := Try.isAgg106
  z75 := Try.sizeOf106
  v75 := Try.zeroValue106
  t164 := Try.underlying133
  a164 := Try.isAgg133
  z164 := Try.sizeOf133
  v164 := Try.zeroValue133 }
theorem Try.Builder_Extra_166 : Builder.Extra Try.prog Try.lays166_ren := {
  sizeBuilder := by kernel_rfl
  liesBuilder := by kernel_rfl
  t5 := Try.underlying5
  a5 := Try.isAgg5
  z5 := Try.sizeOf5
  v5 := Try.zeroValue5
  infoByte := by kernel_rfl
  cellsByte := by kernel_rfl
  sizeByte := by kernel_rfl
  neB5 := by decide }
open Go.RowKit in
theorem Try.Builder_WriteString_k (B b : Nat) (bs : List Value) (s : ByteArray) (w : World) (h : Lib.IsBuilderF 103 5 B b bs w) (hlen : bs.length + s.size ≤ 140737488355328) (hBw : B ≤ w.heap.size) :
    Calls Try.prog 68 #[.pointer (some ⟨b, 0, none⟩), .string s] w fun e w' => e = .returned (.tuple #[.int .i64 s.size, .nilIface]) ∧ (Lib.BuilderAtF 103 5 B b (.pointer (some ⟨b, 0, none⟩)) (bs ++ Lib.strCells s) w' ∧ Below B w w' ∧ Lib.OthersKept 5 (some b) w w') := Any.Builder_WriteString_k Try.lays166 Try.Builder_Extra_166 B b bs s w h hlen hBw
end Go.Proofs
namespace Go.Proofs.Ytcfinlmocgbnbaa.Pr
open Go.RowKit Go.Shelf Go.Proofs.Ytcfinlmocgbnbaa.XB Go.Proofs.YtcfinlmocgbnbaaW.PrintWords
attribute [local go_sem] Oper.semAt_some
set_option linter.unusedVariables false
set_option linter.unusedSimpArgs false
theorem bld_grown {B b : Nat} {bs : List Value} {W W' : World} {row : Option Nat} (h : Lib.IsBuilderF 103 5 B b bs W) (hg : W.grownBy W' row) (hr : ∀ r, row = some r → ∃ o : Obj, W.heap[r]? = some o ∧ o.isCells = false) : Lib.IsBuilderF 103 5 B b bs W' := by
  have key : ∀ p, Lib.BuilderAtF 103 5 B b p bs W → Lib.BuilderAtF 103 5 B b p bs W' := by
    rintro p ⟨h1, v, h2, h3, h4⟩
    refine ⟨h1, v, blk_grown h2 hg (fun e => ?_), h3.kept hg ?_, h4⟩
    · obtain ⟨o, ho, hc⟩ := hr b e.symm
      rw [h2] at ho; cases ho; cases hc
    · rcases hv : v.ownBlock with _ | r
      · exact .inl rfl
      · refine .inr (fun e => ?_)
        obtain ⟨o, ho, hc⟩ := hr r e.symm
        obtain ⟨c, fz, hk⟩ := Lib.ownsRowF_kind h3 r hv
        rw [hk] at ho; cases ho; cases hc
  exact h.elim (fun x => .inl (key _ x)) (fun x => .inr (key _ x))
theorem bld_below {B b : Nat} {bs : List Value} {W W' : World} (h : Lib.IsBuilderF 103 5 B b bs W) (hb : Below W.heap.size W W') : Lib.IsBuilderF 103 5 B b bs W' :=
  bld_grown (row := none) h ⟨hb.os, hb.tape, hb.output, hb.size, fun i hi _ => hb.block i hi⟩ (fun r e => by cases e)
theorem bld_own {n B b : Nat} {bs : List Value} : OwnW n (fun W => Lib.IsBuilderF 103 5 B b bs W) := fun W W' row h hg hr => bld_grown h hg (fun r e => (hr r e).2)
theorem others_keeps {B b : Nat} {W W' : World} {n : Nat} (h : Lib.OthersKept 5 (some b) W W') (hb : ∃ cs t fr, W.heap[b]? = some (.cells cs t fr)) (hs : Below B W W') : KeepsFrom n W W' :=
  ⟨hs.size, fun k o _ hk hc => h k o hk (by rintro e; cases e; obtain ⟨cs, t, fr, q⟩ := hb; rw [q] at hk; cases hk; cases hc) (by rintro c fz rfl; cases hc)⟩
theorem others_cells {b g : Nat} {W W' : World} {cs : Array Value} {t : TypeId} {fr : Nat × Nat} (h : Lib.OthersKept 5 (some b) W W') (hg : W.heap[g]? = some (.cells cs t fr)) (ht : t ≠ 5) (hb : g ≠ b) : W'.heap[g]? = some (.cells cs t fr) :=
  h g _ hg (fun e => hb (by cases e; rfl)) (fun c fz e => ht (by cases e; rfl))
theorem bld_cells {B b : Nat} {bs : List Value} {W : World} (h : Lib.IsBuilderF 103 5 B b bs W) : ∃ cs t fr, W.heap[b]? = some (.cells cs t fr) := by
  rcases h with ⟨_, v, h, _⟩ | ⟨_, v, h, _⟩ <;> exact ⟨_, _, _, h⟩
def joinB (su : List ByteArray) (at_ : Nat) : Nat → ByteArray
  | 0 => ⟨#[]⟩
  | k + 1 => joinB su at_ k ++ rdOf ByteArray.empty su ((at_ + k : Nat) : Int)
theorem joinB_size {su : List ByteArray} (h : ∀ s ∈ su, s.size = 64) (at_ : Nat) : ∀ k, at_ + k ≤ su.length → (joinB su at_ k).size = 64 * k
  | 0, _ => rfl
  | k + 1, hk => by
    show (joinB su at_ k ++ _).size = _
    rw [ByteArray.size_append, joinB_size h at_ k (by omega), rdS_size h (by omega) (by omega)]
    omega
def TInv (su : List ByteArray) (at_ : Nat) (w : World) (cs : Array Value) (b1 b2 : Nat) (cs2 : Array Value) (k : Nat) (W : World) : Prop :=
  Lib.IsBuilderF 103 5 w.heap.size (w.heap.size + 1) (Lib.byteCells (joinB su at_ k).data.toList) W ∧ W.heap[w.heap.size]? = some (.cells cs 89 (0, 0)) ∧ VF w b1 b2 cs cs2 W
def TS (T : ByteArray) (cs : Array Value) (w : World) (D : Nat) (X : World) : Prop :=
  Below w.heap.size w X ∧ X.heap[w.heap.size]? = some (.cells cs 89 (0, 0)) ∧ Lib.IsBuilderF 103 5 w.heap.size (w.heap.size + 1) (Lib.byteCells T.data.toList) X ∧ X.heap[D]? = some (.deferred (some []))
theorem tinv_own {su : List ByteArray} {at_ : Nat} {w : World} {cs : Array Value} {b1 b2 : Nat} {cs2 : Array Value} {k b : Nat} (hb : w.heap.size ≤ b) : OwnW b (TInv su at_ w cs b1 b2 cs2 k) :=
  .and bld_own (.and (.blk _ _ _ _) (VF.own hb))
theorem tinv_below {su : List ByteArray} {at_ : Nat} {w : World} {cs : Array Value} {b1 b2 : Nat} {cs2 : Array Value} {k : Nat} {X Y : World} (h : TInv su at_ w cs b1 b2 cs2 k X) (ht : VT X Y) : TInv su at_ w cs b1 b2 cs2 k Y :=
  ⟨bld_below h.1 ht, blk_same h.2.1 ht, h.2.2.below ht⟩
set_option maxRecDepth 100000 in
set_option maxHeartbeats 4000000 in
theorem vtext_calls {su : List ByteArray} {A0 A1 : Option Addr} {c0 c1 wd half ln : Nat} {sq : Int} (w : World)
    (hsu : Kd.C Kd.string w A0 su.length su) (hc0 : su.length ≤ c0) (hso : Kd.C k24 w A1 0 ([] : List S24)) (hw : vault_book_wide.f su [] sq half ln = some (wd : Int)) (hwd : 2 + 2 * wd ≤ su.length) (hl : su.length ≤ 1000) (hh : half ≤ 1) {p : Nat} (hp : half * wd = p)
    (hz : ∀ s ∈ su, s.size = 64) (hln : ln ≤ 64 * wd) :
    Calls Try.prog 61 #[.agg #[.slice A0 su.length c0, .slice A1 0 c1, .int .i64 sq, .int .i64 (half : Int), .int .i64 (ln : Int)]] w fun e w' => e = .returned (.string ((joinB su (2 + p) wd).extract 0 ln)) ∧ Below w.heap.size w w' := by
  have hp1 : p ≤ wd := by rw [← hp]; exact Nat.le_trans (Nat.mul_le_mul_right wd hh) (by omega)
  refine (callsIn_wide (n := 9)).1 (callsIn_of_wp_marks Try.func61 rfl trivial ?_ rfl)
  refine XB.QM_wp ?_
  simp only [Try.ntmps61, List.size_toArray, List.length_cons, List.length_nil, Nat.reduceAdd, Nat.reduceSub, Array.replicate_succ, Array.replicate_zero, List.push_toArray, List.append_toArray, List.nil_append, List.cons_append]
  go_wp2_with (go_at_call 62; with_reducible refine (vblocks_calls _).mono ?_; rintro e W1 ⟨g1, g2, rfl, hb1, hb2, hbb⟩)
  have F0 : W1.heap[w.heap.size]? = some (.cells #[.slice A0 su.length c0, .slice A1 0 c1, .int .i64 sq, .int .i64 (half : Int), .int .i64 (ln : Int)] 89 (0, 0)) := blk_same (heap_alloc2_old w _ _) hbb
  have F1 : W1.heap[w.heap.size + 1]? = some (.cells #[.pointer none, .slice none 0 0] 103 (0, 0)) := blk_same (heap_alloc2_new w _ _) hbb
  have FB : Below w.heap.size w W1 := below_step (below_alloc (below_alloc (Below.refl w.heap.size w) _) _) hbb
  have z1 : w.heap.size + 1 < W1.heap.size := Go.Proofs.YtcfinlmocgbnbaaW.PrintWords.blk_lt F1
  clear hbb
  have hne1 : g1 ≠ w.heap.size + 1 := by rintro rfl; rw [F1] at hb1; cases hb1
  have hne2 : g2 ≠ w.heap.size + 1 := by rintro rfl; rw [F1] at hb2; cases hb2
  have hbld : Lib.IsBuilderF 103 5 w.heap.size (w.heap.size + 1) (Lib.byteCells (joinB su (2 + p) 0).data.toList) W1 := .inl ⟨by omega, _, F1, World.ownsRowF_nil _ _ _ _, by simp [Value.ownBlock]⟩
  refine wp_range2b (n := 9) (by omega) (gf := 81) (lb := #[.pointer (some ⟨g1, 0, none⟩), .pointer (some ⟨g2, 0, none⟩)]) rfl (enters_of Try.func81 (by kernel_rfl) rfl) (fun k => .int .i64 ((2 + p + k : Nat) : Int)) (fun k => .string (rdOf ByteArray.empty su ((2 + p + k : Nat) : Int))) wd
    (vblocks_seq2 8 (by omega) w g1 g2 hsu hc0 hso hw hwd hl hh hp) (VF.own FB.size) ⟨hb1, hb2, FB⟩ (fun A B h => keeps_below h) (fun h k q => k (h q)) (fun W l o o' h1 h2 h3 => VK.put FB.size W l o o' h1 h2 h3) (by simp)
    (TInv su (2 + p) w #[.slice A0 su.length c0, .slice A1 0 c1, .int .i64 sq, .int .i64 (half : Int), .int .i64 (ln : Int)] g1 g2 #[.int .i64 (half : Int)]) (fun _ _ _ => False) (fun k => tinv_own FB.size) (fun _ _ => .pure _) (fun k A B h ht => tinv_below h ht) (fun _ _ _ _ h _ => h) ⟨hbld, F0, hb1, hb2, FB⟩ ?body ?done (fun _ _ _ _ _ _ h _ => h.elim)
  case body =>
    rintro l k W ⟨hb, h0, hF⟩ hk
    have hds := joinB_size hz (2 + p) k (by omega)
    have hps := rdS_size hz (b := ((2 + p + k : Nat) : Int)) (by omega) (by omega)
    have hbl : (Lib.byteCells (joinB su (2 + p) k).data.toList).length = 64 * k := by rw [Lib.byteCells_length]; exact hds
    have HNX := Lib.hid (show Lib.byteCells (joinB su (2 + p) k).data.toList ++ Lib.strCells (rdOf ByteArray.empty su ((2 + p + k : Nat) : Int)) = Lib.byteCells (joinB su (2 + p) (k + 1)).data.toList by
      show _ = Lib.byteCells (joinB su (2 + p) k ++ rdOf ByteArray.empty su ((2 + p + k : Nat) : Int)).data.toList
      rw [Lib.strCells_eq, ← Lib.byteCells_append, ByteArray.data_append, Array.toList_append])
    have HW := Lib.hid (Try.Builder_WriteString_k w.heap.size (w.heap.size + 1) _ (rdOf ByteArray.empty su ((2 + p + k : Nat) : Int)) W hb (by rw [hbl, hps]; omega) hF.2.2.size)
    have HB := Lib.hid hb
    have H0 := Lib.hid h0
    have HF := Lib.hid hF
    clear hb h0 hF hds hps hbl hw hsu hso hz hbld F0 F1 hb1 hb2
    generalize rdOf ByteArray.empty su ((2 + p + k : Nat) : Int) = dj at *
    gi_wp2_with fail
    refine ⟨trivial, ?_⟩
    refine (CallsIn.inRound l (callsIn_wide.2 HW.out)).mono ?_
    rintro e W2 ⟨rfl, hb2, hB2, hO2⟩
    rw [HNX.out] at hb2
    have VV : VK w g1 g2 #[.slice A0 su.length c0, .slice A1 0 c1, .int .i64 sq, .int .i64 (half : Int), .int .i64 (ln : Int)] #[.int .i64 (half : Int)] W W2 := fun q => ⟨others_cells hO2 q.1 (by decide) hne1, others_cells hO2 q.2.1 (by decide) hne2, q.2.2.trans hB2⟩
    gi_wp2
    exact ⟨others_keeps hO2 (bld_cells HB.out) hB2, VV, .inr hb2, others_cells hO2 H0.out (by decide) (by omega), VV HF.out⟩
  case done =>
    rintro D W hD ⟨hb, h0, hF⟩ hDD
    have hds := joinB_size hz (2 + p) wd (by omega)
    generalize hTe : joinB su (2 + p) wd = T at *
    have HTE := Lib.hid hTe
    clear hTe
    have hnT : (ln : Int) ≤ (T.size : Int) := by omega
    have hD1 : D ≠ w.heap.size + 1 := by omega
    have hstr : ∀ q : XB.In (TS T #[.slice A0 su.length c0, .slice A1 0 c1, .int .i64 sq, .int .i64 (half : Int), .int .i64 (ln : Int)] w D), Calls Try.prog 70 #[.pointer (some ⟨w.heap.size + 1, 0, none⟩)] q.w fun e w'' => e = .returned (.string T) ∧ ∃ q : XB.In (TS T #[.slice A0 su.length c0, .slice A1 0 c1, .int .i64 sq, .int .i64 (half : Int), .int .i64 (ln : Int)] w D), w'' = q.w := fun q => by
      refine (Try.Builder_String_any_k w.heap.size (w.heap.size + 1) T.data.toList q.w q.h.2.2.1 q.h.1.size).mono ?_
      rintro e w' ⟨rfl, h1, h2, h3⟩
      exact ⟨by simp, ⟨w', q.h.1.trans h2, others_cells h3 q.h.2.1 (by decide) (by omega), h1, h3 D _ q.h.2.2.2 (by rintro e; cases e; omega) (by rintro c fz e; cases e)⟩, rfl⟩
    have d5 : ∀ q : XB.In (TS T #[.slice A0 su.length c0, .slice A1 0 c1, .int .i64 sq, .int .i64 (half : Int), .int .i64 (ln : Int)] w D), q.w.cell? ⟨w.heap.size, 4, none⟩ = some (.int .i64 (ln : Int)) := fun q => (blk_cell q.h.2.1 4).trans rfl
    have HSTR := Lib.hid hstr
    have hS : TS T #[.slice A0 su.length c0, .slice A1 0 c1, .int .i64 sq, .int .i64 (half : Int), .int .i64 (ln : Int)] w D W.drew := ⟨below_drew1 hF.2.2, h0, hb.elim (fun x => .inl x.drew) (fun x => .inr x.drew), hDD⟩
    clear hstr hb h0 hF hDD hds F0 F1 hbld hw hsu hso hz
    haveI hne : Nonempty (XB.In (TS T #[.slice A0 su.length c0, .slice A1 0 c1, .int .i64 sq, .int .i64 (half : Int), .int .i64 (ln : Int)] w D)) := ⟨⟨W.drew, hS⟩⟩
    go_wp2
    refine XB.region_all (fun w' => ∃ q : XB.In (TS T #[.slice A0 su.length c0, .slice A1 0 c1, .int .i64 sq, .int .i64 (half : Int), .int .i64 (ln : Int)] w D), w' = q.w) (by kernel_rfl) (by kernel_rfl) ⟨⟨W.drew, hS⟩, rfl⟩ ?_
    iterate 6 quiet_step ((go_at_call 70; with_reducible exact HSTR.out _))
    refine wpQuiet_nil ?_
    rintro Y ⟨⟨_, hY⟩, rfl⟩
    have HY := Lib.hid hY
    clear hY d5 hne
    go_wp2
    refine XB.QM_ret (.inl rfl) HY.out.2.2.2 (XB.resultsX_single rfl (.tmp .nil)) ⟨by rw [HTE.out]; rfl, (XB.OwnW.below (Nat.le_refl _) FB.size).putObj _ HY.out.1 hD HY.out.2.2.2 rfl⟩
end Go.Proofs.Ytcfinlmocgbnbaa.Pr
end
