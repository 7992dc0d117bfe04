/-
  How arguments open: lists of whole numbers, eight words. No condition but those that each lemma names.
-/
import Derived.Test.YtajaobebcmlhaaaDoorLaid
import Derived.Test.YtajaobebcmlhaaaDoorStays
import Derived.WalkKit
import Derived.ProofKit
import Derived.OpenShut
import Derived.ShutString
import Derived.ChangeOld
import Derived.Below
import Derived.SizedLaws
namespace Go.Proofs.YtajaobebcmlhaaaDoor.Pr
open Go.ChangeShapes Go.WideShapes Go.ChangeAt Go.RowKit Go.Proofs.Sha
open Go.Proofs.YtajaobebcmlhaaaDoorW.PrintWords
set_option linter.unusedVariables false
set_option linter.unusedSimpArgs false
set_option maxRecDepth 100000
theorem laidOut : laidOutB Tryd.prog = true := by kernel_rfl
theorem u_ex (z : Int) (h : (Lit.int .u32 z).wf = true) : ∃ x : U, z = u x := by
  have hz : 0 ≤ z ∧ z < 4294967296 := by
    simp only [Lit.wf, Bool.and_eq_true, decide_eq_true_eq] at h
    have e0 : IntKind.u32.min = 0 := rfl
    have e1 : IntKind.u32.max = 4294967295 := rfl
    omega
  exact ⟨BitVec.ofInt 32 z, (u_of z hz.1 hz.2).symm⟩
theorem open_S8 {H : Type} {enc : TypeId × Value → H} {W : World} {base : Nat} {sp : Nat → Bool} {held : Bool} {fuel : Nat} {cs : Array Value} {d : DataW H} {p : List MemPlace} (hl : cs.size = 8)
    (h : DataW.trod enc Tryd.prog W base sp held fuel 23 cs.toList = some (d, p)) : ∃ x : S8, cs = s8c x := by
  have hc : Tryd.prog.cellsOf 22 = 1 := by kernel_rfl
  have key : ∀ i, i < 8 → ∃ x : U, cs[i]? = some (.int .u32 (u x)) := by
    intro i hi
    cases fuel with
    | zero => simp [DataW.trod] at h
    | succ fuel =>
      simp only [DataW.trod, Tryd.underlying23] at h
      split at h
      · obtain ⟨xs, hm, hx⟩ := Option.map_eq_some_iff.1 h
        obtain ⟨b, hb, hf⟩   := Lib.mapM_at hm i i (by simp [hi])
        rw [hc] at hf
        obtain ⟨z, hcz, hd, hw⟩ := DataW.trod_int Tryd.underlying22 hf
        obtain ⟨x, rfl⟩ := u_ex z hw
        refine ⟨x, ?_⟩
        have := congrArg (·[0]?) hcz
        simpa [List.getElem?_take, List.getElem?_drop] using this
      · cases h
  obtain ⟨a, ha⟩ := key 0 (by omega)
  obtain ⟨b, hb⟩ := key 1 (by omega)
  obtain ⟨c, hc⟩ := key 2 (by omega)
  obtain ⟨d, hd⟩ := key 3 (by omega)
  obtain ⟨e, he⟩ := key 4 (by omega)
  obtain ⟨f, hf⟩ := key 5 (by omega)
  obtain ⟨g, hg⟩ := key 6 (by omega)
  obtain ⟨k, hk⟩ := key 7 (by omega)
  refine ⟨⟨a, b, c, d, e, f, g, k⟩, ?_⟩
  apply Array.ext_getElem?
  intro i
  match i with
  | 0 => exact ha
  | 1 => exact hb
  | 2 => exact hc
  | 3 => exact hd
  | 4 => exact he
  | 5 => exact hf
  | 6 => exact hg
  | 7 => exact hk
  | i + 8 => rw [Array.getElem?_eq_none (by omega), Array.getElem?_eq_none (by simp [s8c])]
/-- A list of whole numbers that came in. -/
theorem open_row {H : Type} {enc : TypeId × Value → H} {W : World} {a : Option Addr} {len cap : Nat} {d : DataW H} {p : List MemPlace}
    (h : DataW.Trod enc Tryd.prog W 0 (fun _ => true) true 42 (Value.slice a len cap) d p) : ∃ l : List Int, len = l.length ∧ ReadsInt W .i64 a l.length l ∧ l.length ≤ maxLen ∧ (∀ x ∈ l, (Lit.int .i64 x).wf = true) ∧ l.length ≤ cap := by
  obtain ⟨fuel, hf⟩ := h
  rcases open_ints Tryd.underlying42 Tryd.underlying3 (by kernel_rfl) hf with ⟨hcs, _⟩ | ⟨x, l, c, zs, hcs, _, hl, hm, hz, _, hcell, hwz⟩
  · simp [Value.cells] at hcs
    obtain ⟨rfl, rfl, rfl⟩ := hcs
    exact ReadsInt.ofRowC (zs := []) (.inl ⟨rfl, rfl, rfl, rfl⟩)
  · simp [Value.cells] at hcs
    obtain ⟨rfl, rfl, rfl⟩ := hcs
    exact ReadsInt.ofRowC (zs := zs) (.inr ⟨_, rfl, hl, hm, by simpa using hz, hcell, hwz⟩)
end Go.Proofs.YtajaobebcmlhaaaDoor.Pr
