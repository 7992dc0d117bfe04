/-
  What Do answers. No condition but that what is copied is no longer than what a slice may hold.
-/
import Derived.Test.YtcfinlmocgbnbaaXCrash
namespace Go.Proofs.Ytcfinlmocgbnbaa.Pr
open Go.RowKit Go.Shelf Go.Proofs.Ytcfinlmocgbnbaa.XB Go.Proofs.YtcfinlmocgbnbaaW.PrintWords Go.Proofs.YtcfinlmocgbnbaaW.PrintLast Go.Proofs.YtcfinlmocgbnbaaW.PrintMore
attribute [local go_sem] Oper.semAt_some
set_option linter.unusedVariables false
set_option linter.unusedSimpArgs false
set_option maxRecDepth 100000 in
theorem all_calls (i : Nat) (w : World) : Calls Try.prog 52 #[.int .i64 i] w fun e w' => e = .returned (.int .i64 64) ∧ Below w.heap.size w w' := by
  go_enter Try.func52, Try.ntmps52
  go_wp2
  go_ret
  exact ⟨rfl, Below.refl _ _⟩
/-- What holds of the disk while moves are done. -/
structure DoInv (n : Nat) (su : List ByteArray) (so : List S24) : Prop where
  len : su.length = n
  few : so.length ≤ 3000
  fits : Fits su so
theorem odd_not {n : Int} {m : S24} (h : oddB n m = false) : m.f0 = false → 0 ≤ m.f1 ∧ m.f1 < n ∧ m.f2.size = 64 := by
  intro h0
  unfold oddB at h
  rw [h0] at h
  simp only [Bool.false_eq_true, if_false, Bool.or_eq_false_iff, decide_eq_false_iff_not] at h
  omega
theorem inv_fall {n : Nat} {su : List ByteArray} {so : List S24} (h : DoInv n su so) : DoInv n (fall su so (fun _ => 64) 0) [] :=
  ⟨by rw [fall_len]; exact h.len, by simp, ⟨fun m hm => by simp at hm, fun m hm => by simp at hm, fall_sur so su _ 0 h.fits (fun _ => by omega)⟩⟩
theorem inv_app {n : Nat} {su : List ByteArray} {so : List S24} {m : S24} (h : DoInv n su so) (hm : oddB n m = false) (h0 : m.f0 = false) (h1 : so.length ≠ 3000) : DoInv n su (so ++ [m]) := by
  obtain ⟨a, b, c⟩ := odd_not hm h0
  have hl := h.len
  refine ⟨hl, by have := h.few; simp; omega, ⟨fun x hx => ?_, fun x hx => ?_, h.fits.sur⟩⟩
  · rcases List.mem_append.1 hx with hx | hx
    · exact h.fits.blk x hx
    · obtain rfl : x = m := by simpa using hx
      omega
  · rcases List.mem_append.1 hx with hx | hx
    · exact h.fits.byt x hx
    · obtain rfl : x = m := by simpa using hx
      exact c
theorem doL_at {su0 : List ByteArray} {so0 : List S24} {su : List ByteArray} {so : List S24} {l : List S24} {i : Nat} (h : i < l.length) :
    doL su0 so0 su so (l.drop i) = if (rd_T24 l i).f0 = true then doL su0 so0 (fall su so (fun _ => 64) 0) [] (l.drop (i + 1)) else if (so.length : Int) = 3000 then (su0, so0, 2) else doL su0 so0 su (so ++ [rd_T24 l i]) (l.drop (i + 1)) := by
  rw [List.drop_eq_getElem_cons h, rd24_get h]
  rfl
def disk_Do.f (l0_0 : List ByteArray) (l0_1 : List (S24)) (l1 : List (S24)) : Option (List ByteArray × (List (S24)) × Int) := if l0_0.length < 8796093022208 ∧ l0_1.length < 4398046511104 then some (doB l0_0 l0_1 l1) else none
set_option maxRecDepth 100000 in
set_option maxHeartbeats 4000000 in
theorem disk_Do.calls (A0_0 : Option Addr) (c0_0 : Nat) (l0_0 : List ByteArray) (A0_1 : Option Addr) (c0_1 : Nat) (l0_1 : List (S24)) (A1 : Option Addr) (c1 : Nat) (l1 : List (S24)) (r1 : List ByteArray) (r2 : List (S24)) (r3 : Int) (w : World) (hr0_0 : Kd.C Kd.string w A0_0 l0_0.length l0_0) (hc0_0 : l0_0.length ≤ c0_0) (hr0_1 : Kd.C k24 w A0_1 l0_1.length l0_1) (hc0_1 : l0_1.length ≤ c0_1) (hr1 : Kd.C k24 w A1 l1.length l1) (hc1 : l1.length ≤ c1) (h : disk_Do.f l0_0 l0_1 l1 = some (r1, r2, r3)) :
    Calls Try.prog 25 #[.agg #[.slice A0_0 l0_0.length c0_0, .slice A0_1 l0_1.length c0_1], .slice A1 l1.length c1] w fun e w' => ∃ v0_ v1_ : Value, e = .returned (.tuple #[.agg #[v0_, v1_], .int .i64 r3]) ∧ Kd.R Kd.string 9 w' w.heap.size (fun _ => True) v0_ r1 ∧ Kd.R k24 24 w' w.heap.size (fun _ => True) v1_ r2 ∧ Below w.heap.size w w' := by
  unfold disk_Do.f at h
  by_cases hl : l0_0.length < 8796093022208 ∧ l0_1.length < 4398046511104
  case neg => rw [if_neg hl] at h; cases h
  rw [if_pos hl] at h
  have H := Option.some.inj h
  have HO := Lib.hid (own_f hl)
  have HR0 := Lib.hid hr0_0
  have HR1 := Lib.hid hr0_1
  have HR2 := Lib.hid hr1
  have hxs : l1.length ≤ 9223372036854775807 := Kd.C_max hr1
  clear h hr0_0 hr0_1 hr1
  unfold doB at H
  have HRC := Lib.hid (fun W (hW : Below w.heap.size w W) => disk_Right.calls A0_0 c0_0 l0_0 A0_1 c0_1 l0_1 _ W (Kd.C_below HR0.out hW) hc0_0 (Kd.C_below HR1.out hW) hc0_1 rfl)
  have HOW := Lib.hid (fun W (hW : Below w.heap.size w W) => disk_own.calls A0_0 c0_0 l0_0 A0_1 c0_1 l0_1 l0_0 l0_1 W (Kd.C_below HR0.out hW) hc0_0 (Kd.C_below HR1.out hW) hc0_1 HO.out)
  by_cases hb : rightB l0_0 l0_1 = true
  · have HS := right_iff.1 hb
    have HSS := Lib.hid HS
    rw [hb] at HRC
    cases hany : l1.any (oddB l0_0.length)
    · rw [if_pos ⟨hb, hany⟩] at H
      have HANY := Lib.hid (List.any_eq_false.1 hany)
      have HD := Lib.hid H
      clear hb HS H
      go_enter Try.func25, Try.ntmps25
      go_wp2_with fail
      generalize hU : World.alloc (World.alloc w _) _ = U
      obtain ⟨b1, b2⟩ : U.heap[w.heap.size]? = some (.cells #[.slice A0_0 l0_0.length c0_0, .slice A0_1 l0_1.length c0_1] 30 (0, 0)) ∧ U.heap[w.heap.size + 1]? = some (.cells #[.slice none 0 0, .slice none 0 0] 30 (0, 0)) := by rw [← hU]; exact ⟨heap_alloc2_old w _ _, heap_alloc2_new w _ _⟩
      have HB : Below w.heap.size w U := by rw [← hU]; exact below_alloc (below_alloc (Below.refl w.heap.size w) _) _
      clear hU
      refine (HRC.out U HB).mono ?_
      rintro e W1 ⟨rfl, hb⟩
      have b1' := blk_same b1 hb
      have B1 := Lib.hid b1'
      have B2 := Lib.hid (blk_same b2 hb)
      have HB1 := Lib.hid (HB.trans (hb.mono HB.size))
      have k0 : W1.cell? ⟨w.heap.size, 0, none⟩ = some (.slice A0_0 l0_0.length c0_0) := (blk_cell b1' 0).trans rfl
      have k1 : W1.cell? ⟨w.heap.size, 1, none⟩ = some (.slice A0_1 l0_1.length c0_1) := (blk_cell b1' 1).trans rfl
      clear b1 b2 b1' hb HB U
      go_wp2_with fail
      refine (oddF_calls l0_0.length _).mono ?_
      rintro e W2 ⟨rfl, hW2⟩
      have hb2 := (show Below W1.heap.size W1 W2 by rw [hW2]; exact below_alloc (Below.refl _ _) _)
      have hg := Lib.hid (show W2.heap[W1.heap.size]? = some (.cells #[.int .i64 l0_0.length] 3 (0, 0)) by rw [hW2]; exact heap_alloc_new _ _)
      have B1b := Lib.hid (blk_same B1.out hb2)
      have B2b := Lib.hid (blk_same B2.out hb2)
      have HB2 := Lib.hid (HB1.out.trans (hb2.mono HB1.out.size))
      clear hb2 hW2 B1 B2 HB1 k0 k1
      generalize W1.heap.size = g48 at *
      clear W1
      go_wp2_with fail
      refine (contains47_calls 73 #[.pointer (some ⟨g48, 0, none⟩)] (oddB l0_0.length) A1 c1 l1 _ (Kd.C_below HR2.out HB2.out) hc1 (Kd.C_max HR2.out) (fun _ _ => rfl) (fun x W hW => odd_calls x l0_0.length g48 _ W hg.out hW)).mono ?_
      rintro e W3 ⟨rfl, hb3⟩
      rw [hany]
      have b1' := blk_same B1b.out hb3
      have B1c := Lib.hid b1'
      have B2c := Lib.hid (blk_same B2b.out hb3)
      have HB3 := Lib.hid (HB2.out.trans (hb3.mono HB2.out.size))
      have k0 : W3.cell? ⟨w.heap.size, 0, none⟩ = some (.slice A0_0 l0_0.length c0_0) := (blk_cell b1' 0).trans rfl
      have k1 : W3.cell? ⟨w.heap.size, 1, none⟩ = some (.slice A0_1 l0_1.length c0_1) := (blk_cell b1' 1).trans rfl
      clear hb3 b1' hg B1b B2b HB2 hany
      go_wp2_with fail
      refine (HOW.out W3 HB3.out).mono ?_
      rintro e W4 ⟨v0, v1, rfl, ho0, ho1, hb⟩
      obtain ⟨Ao, co, e0⟩ := Kd.R_slice ho0
      obtain ⟨Ap, cp, e1⟩ := Kd.R_slice ho1
      subst e0
      subst e1
      have h0 := Lib.hid (Kd.R_lower ho0 HB3.out.size)
      have h1 := Lib.hid (Kd.R_lower ho1 HB3.out.size)
      have B1d := Lib.hid (blk_same B1c.out hb)
      have B2d := Lib.hid (blk_same B2c.out hb)
      have HB4 := Lib.hid (HB3.out.trans (hb.mono HB3.out.size))
      clear hb ho0 ho1 B1c B2c HB3 k0 k1
      go_wp2_with fail
      generalize hX : World.alloc W4 _ = X
      have B6 := Lib.hid (show X.heap[W4.heap.size]? = some (.cells #[.slice Ao l0_0.length co, .slice Ap l0_1.length cp] 30 (0, 0)) by rw [← hX]; exact heap_alloc_new W4 _)
      have h0' := Lib.hid (show Kd.R Kd.string 9 X w.heap.size (fun _ => True) (.slice Ao l0_0.length co) l0_0 by rw [← hX]; exact Kd.R_alloc h0.out _)
      have h1' := Lib.hid (show Kd.R k24 24 X w.heap.size (fun _ => True) (.slice Ap l0_1.length cp) l0_1 by rw [← hX]; exact Kd.R_alloc h1.out _)
      have B1e := Lib.hid (show X.heap[w.heap.size]? = some (.cells #[.slice A0_0 l0_0.length c0_0, .slice A0_1 l0_1.length c0_1] 30 (0, 0)) by rw [← hX]; exact blk_alloc B1d.out _)
      have B2e := Lib.hid (show X.heap[w.heap.size + 1]? = some (.cells #[.slice none 0 0, .slice none 0 0] 30 (0, 0)) by rw [← hX]; exact blk_alloc B2d.out _)
      have HBX := Lib.hid (show Below w.heap.size w X by rw [← hX]; exact below_alloc HB4.out _)
      have n2 : w.heap.size + 1 < W4.heap.size := blk_lt B2d.out
      have DI : DoInv l0_0.length l0_0 l0_1 := ⟨rfl, HSS.out.few, HSS.out.fits⟩
      clear hX h0 h1 B1d B2d HB4
      generalize W4.heap.size = g6 at *
      clear W4 W3
      go_loopw [26] (fun v26 Y => ∃ (i : Nat) (su : List ByteArray) (so : List S24) (Ao Ap : Option Addr) (co cp : Nat), i ≤ l1.length ∧ v26 = .int .i64 i ∧ DoInv l0_0.length su so ∧ doL l0_0 l0_1 su so (l1.drop i) = (r1, r2, r3) ∧
          Y.heap[w.heap.size]? = some (.cells #[.slice A0_0 l0_0.length c0_0, .slice A0_1 l0_1.length c0_1] 30 (0, 0)) ∧ Y.heap[w.heap.size + 1]? = some (.cells #[.slice none 0 0, .slice none 0 0] 30 (0, 0)) ∧ Y.heap[g6]? = some (.cells #[.slice Ao su.length co, .slice Ap so.length cp] 30 (0, 0)) ∧
          Kd.R Kd.string 9 Y w.heap.size (fun _ => True) (.slice Ao su.length co) su ∧ Kd.R k24 24 Y w.heap.size (fun _ => True) (.slice Ap so.length cp) so ∧ Below w.heap.size w Y)
        (fun v26 _ => l1.length - (intOf v26).toNat)
      case atStart => exact ⟨0, l0_0, l0_1, Ao, Ap, co, cp, by omega, rfl, DI, by rw [List.drop_zero]; exact HD.out, B1e.out, B2e.out, B6.out, h0'.out, h1'.out, HBX.out⟩
      case round =>
        clear DI B1e B2e B6 h0' h1' HBX
        obtain ⟨i, su, so, Xo, Xp, xo, xp, hi, rfl, hinv, hdo, hb1, hb2, hb6, hR, hS, hB⟩ := hrel
        have HB := Lib.hid hB
        have HB1 := Lib.hid hb1
        have HB2 := Lib.hid hb2
        have HB6 := Lib.hid hb6
        have HR := Lib.hid hR
        have HS := Lib.hid hS
        have HINV := Lib.hid hinv
        by_cases hlt : i < l1.length
        · rw [doL_at hlt] at hdo
          obtain ⟨ad, rfl, q0, q1, q2⟩ := at_T24 (Kd.C_below HR2.out hB) (i : Int) (by omega) (by omega)
          simp only [Int.toNat_natCast] at q0 q1 q2
          have hmem : rd_T24 l1 i ∈ l1 := by rw [rd24_get hlt]; exact List.getElem_mem _
          have hodd : oddB l0_0.length (rd_T24 l1 i) = false := by simpa using HANY.out _ hmem
          generalize rd_T24 l1 i = m at *
          obtain ⟨sy, bl, by_⟩ := m
          have HDO := Lib.hid hdo
          have HODD := Lib.hid hodd
          have kd0 : ∀ o : Obj, (wr.alloc o).cell? ⟨w.heap.size, 0, none⟩ = some (.slice A0_0 l0_0.length c0_0) := fun o => (blk_cell (blk_alloc hb1 o) 0).trans rfl
          have kd1 : ∀ o : Obj, (wr.alloc o).cell? ⟨w.heap.size, 1, none⟩ = some (.slice A0_1 l0_1.length c0_1) := fun o => (blk_cell (blk_alloc hb1 o) 1).trans rfl
          have k60 : ∀ o : Obj, (wr.alloc o).cell? ⟨g6, 0, none⟩ = some (.slice Xo su.length xo) := fun o => (blk_cell (blk_alloc hb6 o) 0).trans rfl
          have k61 : ∀ o : Obj, (wr.alloc o).cell? ⟨g6, 1, none⟩ = some (.slice Xp so.length xp) := fun o => (blk_cell (blk_alloc hb6 o) 1).trans rfl
          clear hB hb1 hb2 hb6 hR hS hinv hdo hmem hodd
          cases sy
          · by_cases hfull : (so.length : Int) = 3000
            · have hfb : ((so.length : Int) == 3000) = true := by simpa using hfull
              have hh := HDO.out
              rw [if_neg (by simp), if_pos hfull] at hh
              simp only [Prod.mk.injEq] at hh
              obtain ⟨rfl, rfl, rfl⟩ := hh
              clear HDO HD hfull
              go_wp2_with fail
              generalize hX : World.alloc wr _ = W3
              have HB1' := Lib.hid (show Below w.heap.size w W3 by rw [← hX]; exact below_alloc HB.out _)
              have B2 := Lib.hid (show W3.heap[w.heap.size + 1]? = some (.cells #[.slice none 0 0, .slice none 0 0] 30 (0, 0)) by rw [← hX]; exact blk_alloc HB2.out _)
              clear hX HB1 k60 k61 kd0 kd1 hfb HB2 HB HB6 HR HS HINV
              have HB1 := HB1'
              clear HB1'
              have k0 := trivial
              have k1 := trivial
              refine (HOW.out W3 HB1.out).mono ?_
              rintro e W2 ⟨v0, v1, rfl, ho0, ho1, hb⟩
              have B3' := Lib.hid (blk_same B2.out hb)
              have HB2 := Lib.hid (HB1.out.trans (hb.mono HB1.out.size))
              obtain ⟨Ao, co, e0⟩ := Kd.R_slice ho0
              obtain ⟨Ap, cp, e1⟩ := Kd.R_slice ho1
              subst e0
              subst e1
              have h0 := Lib.hid (Kd.R_lower ho0 HB1.out.size)
              have h1 := Lib.hid (Kd.R_lower ho1 HB1.out.size)
              have j0 : W2.cell? ⟨w.heap.size + 1, 0, none⟩ = some (.slice none 0 0) := (blk_cell B3'.out 0).trans rfl
              have j1 : W2.cell? ⟨w.heap.size + 1, 1, none⟩ = some (.slice none 0 0) := (blk_cell B3'.out 1).trans rfl
              have f0 := blk_frozen B3'.out 0
              have f1 := blk_frozen B3'.out 1
              clear hb ho0 ho1 k0 k1
              go_wp2
              exact ret30 rfl rfl rfl B3'.out (by show w.heap.size ≤ w.heap.size + 1; omega) h0.out h1.out HB2.out _ rfl
            · have hfb : ((so.length : Int) == 3000) = false := by simpa using hfull
              have hh := HDO.out
              rw [if_neg (by simp), if_neg hfull] at hh
              have HDO2 := Lib.hid hh
              clear hh HDO
              have HTOK := trivial
              go_wp2_with (first
                | ((with_reducible refine gate_dst (N := 30) rfl ?_); have tk := HTOK; generalize hX : World.alloc wr _ = X3; have HX3 := Lib.hid (show Below wr.heap.size wr X3 by rw [← hX]; exact below_alloc (Below.refl _ _) _); have x8 := (show X3.heap[wr.heap.size]? = some (.cells #[.bool false, .int .i64 bl, .string by_] 24 (0, 0)) by rw [← hX]; exact heap_alloc_new wr _); clear hX HTOK tk k60 k61 kd0 kd1; have x6 := blk_same HB6.out HX3.out; have x1 := Lib.hid (blk_same HB1.out HX3.out); have x2 := Lib.hid (blk_same HB2.out HX3.out); have xR := Lib.hid (Kd.R_below HR.out HX3.out); have xS := Lib.hid (Kd.R_below HS.out HX3.out); have xB := Lib.hid (HB.out.trans (HX3.out.mono HB.out.size)); have kx : X3.cell? ⟨g6, 1, none⟩ = some (.slice Xp so.length xp) := (blk_cell x6 1).trans rfl; have c8a : X3.cell? ⟨wr.heap.size, 0, none⟩ = some (.bool false) := (blk_cell x8 0).trans rfl; have c8b : X3.cell? ⟨wr.heap.size, 1, none⟩ = some (.int .i64 bl) := (blk_cell x8 1).trans rfl; have c8c : X3.cell? ⟨wr.heap.size, 2, none⟩ = some (.string by_) := (blk_cell x8 2).trans rfl; clear x8; have x6 := Lib.hid x6)
                | ((with_reducible refine gate_builtin (b := .append) (xs := #[.tmp 31, .tmp 33]) rfl ?_); at_builtin; refine Kd.R_append k24 (w0 := w) w.heap.size rfl (.tmp 31) (.tmp 33) 28 24 (.agg #[(.bool false), (.int .i64 0), (.string ⟨#[]⟩)]) 32 rfl Try.underlying28 info24 rfl (by decide) (by omega) (.slice Xp so.length xp) so (⟨false, bl, by_⟩ : S24) [.bool false, .int .i64 bl, .string by_] (fun _ => True) (fun _ => False) rfl rfl ?aP (fun _ hk => hk.elim) ?aF ?aO ?aB ?aS ?aL ?_; (case aP => exact k24_mkM _ _ _ (⟨false, bl, by_⟩ : S24)); (case aF => exact (fun _ _ => trivial)); (case aO => exact xS.out); (case aB => exact xB.out); (case aS => exact xB.out.size); (case aL => have := HINV.out.few; omega); intro v1' W5 ho hb hg hat; obtain ⟨Yp, yp, e1⟩ := Kd.R_slice ho; subst e1; have y6 := blk_grown x6.out hg (Kd.R_ne xS.out x6.out (by decide)); have y1 := Lib.hid (blk_grown x1.out hg (Kd.R_ne xS.out x1.out (by decide))); have y2 := Lib.hid (blk_grown x2.out hg (Kd.R_ne xS.out x2.out (by decide))); have yR := Lib.hid (Kd.R_over xR.out xS.out (by decide) hg); have yS := Lib.hid ho; have yB := Lib.hid hb; have kk : W5.cell? ⟨g6, 1, none⟩ = some (.slice Xp so.length xp) := (blk_cell y6 1).trans rfl; have ff := blk_frozen y6 1; have y6 := Lib.hid y6; clear ho hb hg hat kx c8a c8b c8c))
              have hlen : (so ++ [(⟨false, bl, by_⟩ : S24)]).length = so.length + 1 := by simp
              go_roundw
              case rel => exact ⟨i + 1, su, so ++ [⟨false, bl, by_⟩], Xo, Yp, xo, yp, by omega, by simp, inv_app HINV.out HODD.out rfl (by omega), HDO2.out, blk_far y1.out (by show w.heap.size ≠ g6; omega) _, blk_far y2.out (by show w.heap.size + 1 ≠ g6; omega) _, by rw [hlen]; exact XB.put21 y6.out _, Kd.R_set yR.out y6.out (by decide) 1 _, Kd.R_set yS.out y6.out (by decide) 1 _, yB.out.setCell (by show w.heap.size ≤ g6; omega) _⟩
              case measure => simp [intOf]; omega
          · have hh := HDO.out
            rw [if_pos rfl] at hh
            have HDO2 := Lib.hid hh
            clear hh HDO
            go_wp2_with fail
            generalize hX : World.alloc wr _ = X3
            have HX3 := Lib.hid (show Below wr.heap.size wr X3 by rw [← hX]; exact below_alloc (Below.refl _ _) _)
            clear hX
            have hrr := Kd.R_reads' (Kd.R_below HR.out HX3.out)
            have hrs := Kd.R_reads' (Kd.R_below HS.out HX3.out)
            refine (settle_calls 52 #[] (fun _ => 64) Xo xo su Xp xp so X3 hrr.2.2 hrr.2.1 hrs.2.2 hrs.2.1 (by rw [HINV.out.len]; exact hl.1) (by have := HINV.out.few; omega) HINV.out.fits (fun _ => by omega) (fun _ _ => rfl) (fun i W _ _ => by simpa using all_calls i W)).mono ?_
            rintro e W5 ⟨v0, v1, rfl, ho0, ho1, hb⟩
            have hb5 := HX3.out.trans (hb.mono HX3.out.size)
            have hz : w.heap.size ≤ X3.heap.size := Nat.le_trans HB.out.size HX3.out.size
            obtain ⟨Yo, yo, e0⟩ := Kd.R_slice ho0
            obtain ⟨Yp, yp, e1⟩ := Kd.R_slice ho1
            subst e0
            subst e1
            have y6 := blk_same HB6.out hb5
            have y1 := Lib.hid (blk_same HB1.out hb5)
            have y2 := Lib.hid (blk_same HB2.out hb5)
            have yR := Lib.hid (Kd.R_lower ho0 hz)
            have yS := Lib.hid (Kd.R_lower ho1 hz)
            have yB := Lib.hid (HB.out.trans (hb5.mono HB.out.size))
            have ka : W5.cell? ⟨g6, 0, none⟩ = some (.slice Xo su.length xo) := (blk_cell y6 0).trans rfl
            have kb : W5.cell? ⟨g6, 1, none⟩ = some (.slice Xp so.length xp) := (blk_cell y6 1).trans rfl
            have fa := blk_frozen y6 0
            have fb := blk_frozen y6 1
            have y6 := Lib.hid y6
            clear ho0 ho1 hb hb5 hrr hrs k60 k61 kd0 kd1
            go_wp2
            go_roundw
            case rel => exact ⟨i + 1, fall su so (fun _ => 64) 0, [], Yo, Yp, yo, yp, by omega, by simp, inv_fall HINV.out, HDO2.out, blk_far (blk_far y1.out (by show w.heap.size ≠ g6; omega) _) (by show w.heap.size ≠ g6; omega) _, blk_far (blk_far y2.out (by show w.heap.size + 1 ≠ g6; omega) _) (by show w.heap.size + 1 ≠ g6; omega) _, XB.put21 (XB.put20 y6.out _) _, Kd.R_set (Kd.R_set yR.out y6.out (by decide) 0 _) (XB.put20 y6.out _) (by decide) 1 _, Kd.R_set (Kd.R_set yS.out y6.out (by decide) 0 _) (XB.put20 y6.out _) (by decide) 1 _, (yB.out.setCell (by show w.heap.size ≤ g6; omega) _).setCell (by show w.heap.size ≤ g6; omega) _⟩
            case measure => simp [intOf]; omega
        · obtain rfl : i = l1.length := by omega
          rw [List.drop_length] at hdo
          have hh : su = r1 ∧ so = r2 ∧ 0 = r3 := by
            have : (su, so, (0 : Int)) = (r1, r2, r3) := hdo
            simpa only [Prod.mk.injEq] using this
          obtain ⟨rfl, rfl, rfl⟩ := hh
          have k60 : wr.cell? ⟨g6, 0, none⟩ = some (.slice Xo su.length xo) := (blk_cell hb6 0).trans rfl
          have k61 : wr.cell? ⟨g6, 1, none⟩ = some (.slice Xp so.length xp) := (blk_cell hb6 1).trans rfl
          have j0 : wr.cell? ⟨w.heap.size + 1, 0, none⟩ = some (.slice none 0 0) := (blk_cell hb2 0).trans rfl
          have j1 : wr.cell? ⟨w.heap.size + 1, 1, none⟩ = some (.slice none 0 0) := (blk_cell hb2 1).trans rfl
          have f0 := blk_frozen hb2 0
          have f1 := blk_frozen hb2 1
          clear hB hb1 hb2 hb6 hR hS hinv hdo
          go_wp2
          exact ret30 rfl rfl rfl HB2.out (by show w.heap.size ≤ w.heap.size + 1; omega) HR.out HS.out HB.out _ rfl
    · have hn : ¬ (rightB l0_0 l0_1 = true ∧ l1.any (oddB l0_0.length) = false) := fun x => by rw [hany] at x; cases x.2
      rw [if_neg hn] at H
      simp only [Prod.mk.injEq] at H
      obtain ⟨rfl, rfl, rfl⟩ := H
      clear hb HS hn
      go_enter Try.func25, Try.ntmps25
      go_wp2_with fail
      generalize hU : World.alloc (World.alloc w _) _ = U
      obtain ⟨b1, b2⟩ : U.heap[w.heap.size]? = some (.cells #[.slice A0_0 l0_0.length c0_0, .slice A0_1 l0_1.length c0_1] 30 (0, 0)) ∧ U.heap[w.heap.size + 1]? = some (.cells #[.slice none 0 0, .slice none 0 0] 30 (0, 0)) := by rw [← hU]; exact ⟨heap_alloc2_old w _ _, heap_alloc2_new w _ _⟩
      have HB : Below w.heap.size w U := by rw [← hU]; exact below_alloc (below_alloc (Below.refl w.heap.size w) _) _
      clear hU
      refine (HRC.out U HB).mono ?_
      rintro e W1 ⟨rfl, hb⟩
      have b1' := blk_same b1 hb
      have B1 := Lib.hid b1'
      have B2 := Lib.hid (blk_same b2 hb)
      have HB1 := Lib.hid (HB.trans (hb.mono HB.size))
      have k0 : W1.cell? ⟨w.heap.size, 0, none⟩ = some (.slice A0_0 l0_0.length c0_0) := (blk_cell b1' 0).trans rfl
      have k1 : W1.cell? ⟨w.heap.size, 1, none⟩ = some (.slice A0_1 l0_1.length c0_1) := (blk_cell b1' 1).trans rfl
      clear b1 b2 b1' hb HB U
      go_wp2_with fail
      refine (oddF_calls l0_0.length _).mono ?_
      rintro e W2 ⟨rfl, hW2⟩
      have hb2 := (show Below W1.heap.size W1 W2 by rw [hW2]; exact below_alloc (Below.refl _ _) _)
      have hg := Lib.hid (show W2.heap[W1.heap.size]? = some (.cells #[.int .i64 l0_0.length] 3 (0, 0)) by rw [hW2]; exact heap_alloc_new _ _)
      have B1b := Lib.hid (blk_same B1.out hb2)
      have B2b := Lib.hid (blk_same B2.out hb2)
      have HB2 := Lib.hid (HB1.out.trans (hb2.mono HB1.out.size))
      clear hb2 hW2 B1 B2 HB1 k0 k1
      generalize W1.heap.size = g48 at *
      clear W1
      go_wp2_with fail
      refine (contains47_calls 73 #[.pointer (some ⟨g48, 0, none⟩)] (oddB l0_0.length) A1 c1 l1 _ (Kd.C_below HR2.out HB2.out) hc1 (Kd.C_max HR2.out) (fun _ _ => rfl) (fun x W hW => odd_calls x l0_0.length g48 _ W hg.out hW)).mono ?_
      rintro e W3 ⟨rfl, hb3⟩
      rw [hany]
      have b1' := blk_same B1b.out hb3
      have B2 := Lib.hid (blk_same B2b.out hb3)
      have HB1 := Lib.hid (HB2.out.trans (hb3.mono HB2.out.size))
      have k0 : W3.cell? ⟨w.heap.size, 0, none⟩ = some (.slice A0_0 l0_0.length c0_0) := (blk_cell b1' 0).trans rfl
      have k1 : W3.cell? ⟨w.heap.size, 1, none⟩ = some (.slice A0_1 l0_1.length c0_1) := (blk_cell b1' 1).trans rfl
      clear hb3 b1' hg B1b B2b HB2 hany
      go_wp2_with fail
      refine (HOW.out W3 HB1.out).mono ?_
      rintro e W2 ⟨v0, v1, rfl, ho0, ho1, hb⟩
      have B3' := Lib.hid (blk_same B2.out hb)
      have HB2 := Lib.hid (HB1.out.trans (hb.mono HB1.out.size))
      obtain ⟨Ao, co, e0⟩ := Kd.R_slice ho0
      obtain ⟨Ap, cp, e1⟩ := Kd.R_slice ho1
      subst e0
      subst e1
      have h0 := Lib.hid (Kd.R_lower ho0 HB1.out.size)
      have h1 := Lib.hid (Kd.R_lower ho1 HB1.out.size)
      have j0 : W2.cell? ⟨w.heap.size + 1, 0, none⟩ = some (.slice none 0 0) := (blk_cell B3'.out 0).trans rfl
      have j1 : W2.cell? ⟨w.heap.size + 1, 1, none⟩ = some (.slice none 0 0) := (blk_cell B3'.out 1).trans rfl
      have f0 := blk_frozen B3'.out 0
      have f1 := blk_frozen B3'.out 1
      clear hb ho0 ho1 k0 k1
      go_wp2
      exact ret30 rfl rfl rfl B3'.out (by show w.heap.size ≤ w.heap.size + 1; omega) h0.out h1.out HB2.out _ rfl
  · have hb' : rightB l0_0 l0_1 = false := by simpa using hb
    rw [if_neg (fun x => hb x.1)] at H
    rw [hb'] at HRC
    simp only [Prod.mk.injEq] at H
    obtain ⟨rfl, rfl, rfl⟩ := H
    clear hb hb'
    go_enter Try.func25, Try.ntmps25
    go_wp2_with fail
    generalize hU : World.alloc (World.alloc w _) _ = U
    obtain ⟨b1, b2⟩ : U.heap[w.heap.size]? = some (.cells #[.slice A0_0 l0_0.length c0_0, .slice A0_1 l0_1.length c0_1] 30 (0, 0)) ∧ U.heap[w.heap.size + 1]? = some (.cells #[.slice none 0 0, .slice none 0 0] 30 (0, 0)) := by rw [← hU]; exact ⟨heap_alloc2_old w _ _, heap_alloc2_new w _ _⟩
    have HB : Below w.heap.size w U := by rw [← hU]; exact below_alloc (below_alloc (Below.refl w.heap.size w) _) _
    clear hU
    refine (HRC.out U HB).mono ?_
    rintro e W1 ⟨rfl, hb⟩
    have b1' := blk_same b1 hb
    have B1 := Lib.hid b1'
    have B2 := Lib.hid (blk_same b2 hb)
    have HB1 := Lib.hid (HB.trans (hb.mono HB.size))
    have k0 : W1.cell? ⟨w.heap.size, 0, none⟩ = some (.slice A0_0 l0_0.length c0_0) := (blk_cell b1' 0).trans rfl
    have k1 : W1.cell? ⟨w.heap.size, 1, none⟩ = some (.slice A0_1 l0_1.length c0_1) := (blk_cell b1' 1).trans rfl
    clear b1 b2 b1' hb HB U
    go_wp2_with fail
    refine (HOW.out W1 HB1.out).mono ?_
    rintro e W2 ⟨v0, v1, rfl, ho0, ho1, hb⟩
    have B3' := Lib.hid (blk_same B2.out hb)
    have HB2 := Lib.hid (HB1.out.trans (hb.mono HB1.out.size))
    obtain ⟨Ao, co, e0⟩ := Kd.R_slice ho0
    obtain ⟨Ap, cp, e1⟩ := Kd.R_slice ho1
    subst e0
    subst e1
    have h0 := Lib.hid (Kd.R_lower ho0 HB1.out.size)
    have h1 := Lib.hid (Kd.R_lower ho1 HB1.out.size)
    have j0 : W2.cell? ⟨w.heap.size + 1, 0, none⟩ = some (.slice none 0 0) := (blk_cell B3'.out 0).trans rfl
    have j1 : W2.cell? ⟨w.heap.size + 1, 1, none⟩ = some (.slice none 0 0) := (blk_cell B3'.out 1).trans rfl
    have f0 := blk_frozen B3'.out 0
    have f1 := blk_frozen B3'.out 1
    clear hb ho0 ho1 k0 k1
    go_wp2
    exact ret30 rfl rfl rfl B3'.out (by show w.heap.size ≤ w.heap.size + 1; omega) h0.out h1.out HB2.out _ rfl
end Go.Proofs.Ytcfinlmocgbnbaa.Pr
