/-
  Shorter words yet for a great printed text: facts told of a later world. Each names its conditions; what is left out is found by the tactic that stands behind it.
-/
import Derived.Test.YtcfinlmocgbnbaaXSq
set_option linter.unusedVariables false
namespace Go.Proofs.Ytcfinlmocgbnbaa.Sq
open Go.RowKit Go.Proofs.YtcfinlmocgbnbaaW.PrintWords Go.Proofs.YtcfinlmocgbnbaaW.PrintLast Go.Proofs.YtcfinlmocgbnbaaW.PrintMore
/-- A row, behind new blocks and orders drawn. -/
theorem sr_ {P Q : Prop} (h : Aside0 P) (f : P → Q := by intro h_; (with_reducible repeat first | apply ra | apply rn | apply rd); exact h_) : Aside0 Q := ⟨f h.out⟩
/-- A variable, behind new blocks and orders drawn. -/
theorem sk_ {P Q : Prop} (h : Aside0 P) (f : P → Q := by intro h_; (with_reducible repeat (first | refine blk_drewN ?_ _ | refine blk_drew ?_ | refine blk_alloc ?_ _)); exact h_) : Aside0 Q := ⟨f h.out⟩
/-- What lies below stays. -/
theorem sC_ {P Q : Prop} (h : Aside0 P) (f : P → Q := by intro h_; repeat first | (with_reducible first | exact h_ | apply ba | apply bn | apply bd | refine bs (by assumption) ?_) | exact h_) : Q := f h.out
theorem sB_ {P Q : Prop} (h : Aside0 P) (f : P → Q := by intro h_; repeat first | (with_reducible first | exact h_ | apply ba | apply bn | apply bd | refine bs (by assumption) ?_) | exact h_) : Aside0 Q := ⟨f h.out⟩
end Go.Proofs.Ytcfinlmocgbnbaa.Sq
