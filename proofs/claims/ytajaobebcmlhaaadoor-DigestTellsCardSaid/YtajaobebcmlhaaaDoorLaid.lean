/-
  What the row's condition gives a walk: the words of the rounds; and a world that meets it.
-/
import Derived.Test.YtajaobebcmlhaaaDoorRows
import Derived.Test.YtajaobebcmlhaaaDoorComp
import Derived.ChangeSame
import Derived.ChangeVars
import Derived.JoinedOf
import Derived.RowKit
import Derived.LaidLaws
import Derived.LaidSub
import Derived.Lib.LaidIn
import Derived.Lib.LaidTab
import Derived.Lib.LaidU8
set_option linter.unusedSimpArgs false
namespace Go.Proofs.YtajaobebcmlhaaaDoor.Pr
open Go.ChangeShapes Go.WideShapes Go.RowKit Go.Proofs.Sha
theorem own : ownKnob Tryd.prog.godebug = none := by kernel_rfl
theorem laid_is : Rows.laid_columbarium_digest_round (H := Unit) = Lib.tabData .u32 (kl.map fun n : Nat => (n : Int)) := rfl
theorem tbl_of_laid {W : World} (h : laidMetH Tryd.prog [("columbarium/digest.round", Rows.laid_columbarium_digest_round)] W) : Tbl W := by
  have h' : laidMet Tryd.prog [("columbarium/digest.round", Rows.laid_columbarium_digest_round)] W := h
  obtain ⟨g, t, cs, fuel, p, hg, hty, hvar, hd⟩ := Lib.laidMet.reads h' (.head _)
  obtain rfl : g = 0 := Option.some.inj (hg.symm.trans (by kernel_rfl))
  obtain rfl : t = 65 := Option.some.inj (hty.symm.trans (by kernel_rfl))
  rw [laid_is] at hd
  have hcs := Lib.cells_of_tab Tryd.underlying65 Tryd.underlying22 (by kernel_rfl) (by kernel_rfl) hd
  have hc : ∀ i, i < 64 → W.cell? ⟨0, i, none⟩ = some (.int .u32 (u (K i))) := by
    intro i hi
    rw [World.var?_cell hg hvar i, ← Array.getElem?_toList, hcs]
    have hl : kl.length = 64 := rfl
    rw [List.getElem?_map, List.getElem?_map, List.getElem?_eq_getElem (by omega)]
    have hk : u (K i) = ((kl.getD i 0 : Nat) : Int) := by
      have hlt : ∀ n ∈ kl, n < 4294967296 := by decide +kernel
      unfold u K
      rw [BitVec.toNat_ofNat, List.getD_eq_getElem?_getD, List.getElem?_eq_getElem (by omega)]
      have := hlt _ (List.getElem_mem (show i < kl.length by omega))
      simp only [Option.getD_some]
      omega
    rw [hk, List.getD_eq_getElem?_getD, List.getElem?_eq_getElem (by omega)]
    rfl
  refine ⟨?_, hc⟩
  have h0 := hc 0 (by omega)
  rcases Nat.eq_zero_or_pos W.heap.size with hz | hz
  · have : W.heap[0]? = none := Array.getElem?_eq_none (by omega)
    simp [World.cell?, this] at h0
  · exact hz
/-- A world that meets the condition. -/
noncomputable def laidWorld (os : Os) : World :=
  let w0 := World.holding Tryd.prog os ⟨#[], #[], []⟩
  { w0 with heap := w0.heap.modify 0 fun
      | .cells _ t frozen => .cells (kl.map fun n : Nat => Value.int .u32 n).toArray t frozen
      | o => o }
end Go.Proofs.YtajaobebcmlhaaaDoor.Pr
