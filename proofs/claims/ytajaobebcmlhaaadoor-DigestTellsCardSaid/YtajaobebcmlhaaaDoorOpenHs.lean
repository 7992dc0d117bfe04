/-
  How a sum on its way opens, that came in. No condition.
-/
import Derived.Test.YtajaobebcmlhaaaDoorOpen
namespace Go.Proofs.YtajaobebcmlhaaaDoor.Pr
open Go.ChangeShapes Go.WideShapes Go.ChangeAt Go.RowKit Go.Proofs.Sha
set_option linter.unusedVariables false
set_option maxRecDepth 100000
theorem open_s8 {H : Type} {enc : TypeId × Value → H} {W : World} {b0 base : Nat} {r : Reach} {sp : Nat → Bool} {held : Bool} {v : Value} {d : DataW H} {p : List MemPlace} (ho : Value.okWide Tryd.prog W r b0 23 v)
    (h : DataW.Trod enc Tryd.prog W base sp held 23 v d p) : ∃ x : S8, v = .agg (s8c x) := by
  simp only [Value.okWide, Tryd.underlying23] at ho
  obtain ⟨cs, hv, hn, _⟩ := ho
  subst hv
  obtain ⟨fuel, hf⟩ := h
  have h8 : Tryd.prog.cellsOf 23 = 8 := by kernel_rfl
  obtain ⟨x, rfl⟩ := open_S8 (cs := cs) (by rw [hn]; exact h8) hf
  exact ⟨x, rfl⟩
theorem open_hs {H : Type} {enc : TypeId × Value → H} {W : World} {b0 base : Nat} {r : Reach} {sp : Nat → Bool} {held : Bool} {v : Value} {d : DataW H} {p : List MemPlace} (ho : Value.okWide Tryd.prog W r b0 25 v)
    (h : DataW.Trod enc Tryd.prog W base sp held 25 v d p) : ∃ x : Hs, v = .agg (hsc x) ∧ -9223372036854775808 ≤ x.many ∧ x.many ≤ 9223372036854775807 := by
  simp only [Value.okWide, Tryd.underlying25] at ho
  obtain ⟨cs, hv, hn, _⟩ := ho
  subst hv
  obtain ⟨fuel, hf⟩ := h
  have h10 : Tryd.prog.cellsOf 25 = 10 := by kernel_rfl
  rw [h10] at hn
  obtain ⟨xs, n, _, _, _, hxl, hx⟩ := DataW.trod_struct Tryd.underlying25 hf
  have c23 : Tryd.prog.cellsOf 23 = 8 := by kernel_rfl
  have c9 : Tryd.prog.cellsOf 9 = 1 := by kernel_rfl
  have c3 : Tryd.prog.cellsOf 3 = 1 := by kernel_rfl
  obtain ⟨a0, a1, a2, a3, a4, a5, a6, a7, a8, a9, rfl⟩ : ∃ a0 a1 a2 a3 a4 a5 a6 a7 a8 a9, cs = #[a0, a1, a2, a3, a4, a5, a6, a7, a8, a9] :=
    match cs, hn with
    | ⟨[a0, a1, a2, a3, a4, a5, a6, a7, a8, a9]⟩, _ => ⟨a0, a1, a2, a3, a4, a5, a6, a7, a8, a9, rfl⟩

  have hxl' : xs.length = 3 := hxl
  have g : ∀ i, i < 3 → ∃ y, xs[i]? = some y := fun i hi => ⟨_, List.getElem?_eq_getElem (by omega)⟩
  obtain ⟨y0, e0⟩ := g 0 (by omega)
  obtain ⟨y1, e1⟩ := g 1 (by omega)
  obtain ⟨y2, e2⟩ := g 2 (by omega)
  have f0 : DataW.trod enc Tryd.prog W base sp held n 23 (List.take (Tryd.prog.cellsOf 23) [a0, a1, a2, a3, a4, a5, a6, a7, a8, a9]) = some y0 := (hx 0 _ rfl).trans e0
  have f1 : DataW.trod enc Tryd.prog W base sp held n 9 (List.take (Tryd.prog.cellsOf 9) [a8, a9]) = some y1 := (hx 1 _ rfl).trans e1
  have f2 : DataW.trod enc Tryd.prog W base sp held n 3 (List.take (Tryd.prog.cellsOf 3) [a9]) = some y2 := (hx 2 _ rfl).trans e2
  rw [c23] at f0
  rw [c9] at f1
  rw [c3] at f2
  obtain ⟨x, hx8⟩ := open_S8 (cs := #[a0, a1, a2, a3, a4, a5, a6, a7]) (d := y0.1) (p := y0.2) rfl f0
  obtain ⟨st_, h1, _, _⟩ := DataW.trod_string Tryd.underlying9 f1
  obtain ⟨z, h2, _, hw⟩ := DataW.trod_int Tryd.underlying3 f2
  obtain ⟨rfl⟩ : a8 = .string st_ := by simpa using h1
  obtain ⟨rfl⟩ : a9 = .int .i64 z := by simpa using h2
  have i0 : IntKind.i64.min = -9223372036854775808 := rfl
  have i1 : IntKind.i64.max = 9223372036854775807 := rfl
  simp only [Lit.wf, Bool.and_eq_true, decide_eq_true_eq] at hw
  refine ⟨⟨x, st_, z⟩, ?_, by show _ ≤ z; omega, by show z ≤ _; omega⟩
  unfold s8c at hx8
  simp only [Array.mk.injEq, List.cons.injEq, and_true] at hx8
  obtain ⟨rfl, rfl, rfl, rfl, rfl, rfl, rfl, rfl⟩ := hx8
  rfl
end Go.Proofs.YtajaobebcmlhaaaDoor.Pr
