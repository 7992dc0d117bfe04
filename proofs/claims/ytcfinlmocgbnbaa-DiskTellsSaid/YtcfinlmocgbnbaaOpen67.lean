/-
  What a row of arrays of three numbers is, where it comes in as an argument. Condition: it reads as such a row.
-/
import Derived.Test.YtcfinlmocgbnbaaPr0
import Derived.OpenShut
import Derived.ProofKit
import Derived.DataElems
set_option linter.unusedVariables false
namespace Go.Proofs.Ytcfinlmocgbnbaa.Pr
open Go.RowKit Go.Proofs.YtcfinlmocgbnbaaW.PrintWords Go.ChangeShapes Go.WideShapes Go.ChangeAt
/-- What a row of three raw numbers is. -/
def wf67 (l : List S67) : Prop := ∀ x ∈ l, (Lit.int .i64 x.f0).wf = true ∧ (Lit.int .i64 x.f1).wf = true ∧ (Lit.int .i64 x.f2).wf = true
theorem rd67_lit {l : List S67} (h : wf67 l) {i : Int} (h0 : 0 ≤ i) (h1 : i < l.length) : (Lit.int .i64 (rd_T67 l i).f0).wf = true ∧ (Lit.int .i64 (rd_T67 l i).f1).wf = true ∧ (Lit.int .i64 (rd_T67 l i).f2).wf = true := by
  have hi : i.toNat < l.length := by omega
  have : rd_T67 l i = l[i.toNat] := by unfold rd_T67; simp [hi]
  rw [this]
  exact h _ (List.getElem_mem hi)
section
variable {H : Type} {enc : TypeId × Value → H} {w : World} {base : Nat} {spare : Nat → Bool} {held : Bool} {fuel : Nat}
set_option maxRecDepth 100000 in
theorem open_67 {cs : List Value} {x : DataW H × List MemPlace} (h : DataW.trod enc Try.prog w base spare held fuel 67 cs = some x) :
    ∃ s : S67, cs = [.int .i64 s.f0, .int .i64 s.f1, .int .i64 s.f2] ∧ (Lit.int .i64 s.f0).wf = true ∧ (Lit.int .i64 s.f1).wf = true ∧ (Lit.int .i64 s.f2).wf = true := by
  obtain ⟨xs, m, rfl, rfl, hl, hx, he⟩ := DataW.trod_array Try.underlying67 h
  have hc : Try.prog.cellsOf 67 = 3 := by kernel_rfl
  have hc3 : Try.prog.cellsOf 3 = 1 := by kernel_rfl
  rw [hc] at hl
  match cs, hl with
  | [u0, u1, u2], _ =>
    have g : ∀ i, (hi : i < 3) → ∃ n, ((([u0, u1, u2] : List Value).drop (i * 1)).take 1) = [.int .i64 n] ∧ (Lit.int .i64 n).wf = true := fun i hi => by
      have := he i hi
      rw [hc3, List.getElem?_eq_getElem (by omega)] at this
      obtain ⟨n, e, _, hw⟩ := DataW.trod_int Try.underlying3 this
      exact ⟨n, e, hw⟩
    obtain ⟨n0, e0, w0⟩ := g 0 (by omega)
    obtain ⟨n1, e1, w1⟩ := g 1 (by omega)
    obtain ⟨n2, e2, w2⟩ := g 2 (by omega)
    simp at e0 e1 e2
    subst e0
    subst e1
    subst e2
    exact ⟨⟨n0, n1, n2⟩, rfl, w0, w1, w2⟩
set_option maxRecDepth 100000 in
theorem open_rows67 {a : Option Addr} {len cap : Nat} {d : DataW H} {p : List MemPlace} (h : DataW.Trod enc Try.prog w base spare held 22 (.slice a len cap) d p) :
    ∃ l : List S67, len = l.length ∧ Kd.C k67 w a l.length l ∧ l.length ≤ cap ∧ l.length ≤ maxLen ∧ wf67 l := by
  obtain ⟨fuel, hf⟩ := h
  have hc : Try.prog.cellsOf 67 = 3 := by kernel_rfl
  rcases DataW.trod_slice Try.underlying22 hf with ⟨hcs, _⟩ | ⟨ad, l, c, elems, rest, n, rfl, hcs, _, _, hlc, hcm, hel, hcell, _⟩
  · simp [Value.cells] at hcs
    obtain ⟨rfl, rfl, rfl⟩ := hcs
    exact ⟨[], rfl, ⟨rfl, by simp, fun h => absurd h (by simp)⟩, by simp, by simp, fun x hx => by cases hx⟩
  · simp [Value.cells] at hcs
    obtain ⟨rfl, rfl, rfl⟩ := hcs
    rw [hc] at hcell
    have each : ∀ i, i < len → ∃ s : S67, (∀ j u, ([.int .i64 s.f0, .int .i64 s.f1, .int .i64 s.f2] : List Value)[j]? = some u → w.cell? (ad.add (i * 3 + j)) = some u) ∧ (Lit.int .i64 s.f0).wf = true ∧ (Lit.int .i64 s.f1).wf = true ∧ (Lit.int .i64 s.f2).wf = true := fun i hi => by
      have h1 := hcell i hi
      rw [List.getElem?_eq_getElem (by omega), Option.bind_eq_some_iff] at h1
      obtain ⟨cs, h2, h3⟩ := h1
      obtain ⟨s, rfl, w0, w1, w2⟩ := open_67 h3
      refine ⟨s, fun j u hj => ?_, w0, w1, w2⟩
      have h4 := (World.cells?_some h2).2.2 j (by
        have := (List.getElem?_eq_some_iff.1 hj).1
        simpa using this)
      rw [hj] at h4
      rw [← h4, Addr.add_add]
    clear hcell
    have hs : ∃ l : List S67, l.length = len ∧ ∀ i s, l[i]? = some s → (∀ j u, ([.int .i64 s.f0, .int .i64 s.f1, .int .i64 s.f2] : List Value)[j]? = some u → w.cell? (ad.add (i * 3 + j)) = some u) ∧ (Lit.int .i64 s.f0).wf = true ∧ (Lit.int .i64 s.f1).wf = true ∧ (Lit.int .i64 s.f2).wf = true := by
      refine ⟨(List.range len).map fun i => if hi : i < len then (each i hi).choose else z67, by simp, fun i s hi => ?_⟩
      have hl := (List.getElem?_eq_some_iff.1 hi).1
      simp at hl
      simp [hl] at hi
      subst hi
      exact (each i hl).choose_spec
    obtain ⟨l, rfl, hl⟩ := hs
    have hmax : maxLen ≤ 9223372036854775807 := by decide
    refine ⟨l, rfl, ⟨rfl, by omega, fun _ => ⟨ad, rfl, fun j s hj => ⟨_, rfl, k67_mk w s, (hl j s hj).1⟩⟩⟩, hlc, by omega, fun x hx => ?_⟩
    obtain ⟨i, hi⟩ := List.getElem?_of_mem hx
    exact (hl i x hi).2
end
end Go.Proofs.Ytcfinlmocgbnbaa.Pr
