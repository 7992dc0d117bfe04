/-
  Names: all constants have the numbers that the document gives them: the law returns true (it takes no argument). No condition.
-/
import Derived.Test.YtmkncddbecmlpaaPNamesx1
namespace Go.Proofs.Ytmkncddbecmlpaa.Pure
open Go.RowKit Go.Proofs.Ytmkncddbecmlpaa.PNames Go.Proofs.YtmkncddbecmlpaaW.PrintWords Go.Proofs.YtmkncddbecmlpaaW.PrintLast

/-- YOURS: columbariumtop_Names.f  = some true
What it reaches (each with k first where it has rounds; `.mono`: more rounds tell the same; `.l0`, ..: its loops, with `.mono_l`): columbariumtop_Names.f -/
theorem Names : columbariumtop_Names.Pure := by
  rfl

end Go.Proofs.Ytmkncddbecmlpaa.Pure
