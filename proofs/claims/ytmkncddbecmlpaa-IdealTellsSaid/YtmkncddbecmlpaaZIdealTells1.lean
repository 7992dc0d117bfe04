/-
  A part of what the row IdealTells reaches, laid together by a program of this session (wip/tools/shake.py) out of this seat's texts. No condition but the ones that each lemma names.
-/
import Derived.WalkKit
import Derived.KernelRfl
import Derived.Test.YtmkncddbecmlpaaProg
import Derived.Below
import Derived.Deep.Draws
import Derived.Deep.AppendLies
import Derived.Maps.AppendAt
import Derived.OwnWalk
import Derived.Laws.BytesArg
import Derived.Laws.MakeOwn
import Derived.Laws.OwnMore
import Derived.Deep.OwnRows
import Derived.Tactics
import Derived.Lib.ConvBytes
import Derived.Laws.Slices
import Derived.RowKit3
import Derived.Deep.LoopGhost
import Derived.Deep.QuietTactic
import Derived.BigQuiet
import Derived.WideLaws
import Derived.Deep.DeepCutAuto
import Derived.Deep.CutBlock
import Derived.Deep.RegionHeld3
import Derived.Laws.Rows
import Derived.Lib.AppendStr
import Derived.ArgAppend
import Derived.Laws.IdiomCopy
import Derived.OrdersHeld
import Derived.Laws.BitsLemmas
import Derived.RowKit
import Derived.Lib.SliceRun
import Derived.RangeFuncNested
import Derived.RangeFuncBound
import Derived.RangeFuncCalls
import Derived.RangeFuncLeaves
import Derived.Shelf.Abstract
import Derived.Shelf.RegionOpen
import Derived.OwnWalkIn
import Derived.TacticsInMore
import Derived.LoopNIn
import Derived.LoopIn
import Derived.RegionTactic
import Derived.ChangeAlike
import Derived.Outline
import Derived.Lib.Hide
import Derived.Maps.OwnIn
import Derived.StringKeys
import Derived.MapKept
import Derived.Carry
import Derived.Test.YtmkncddbecmlpaaZIdealTells0
set_option linter.unusedVariables false
set_option linter.unusedSimpArgs false
section
set_option linter.unusedVariables false
namespace Go.Proofs.Ytmkncddbecmlpaa.Sq
open Go.RowKit Go.Proofs.YtmkncddbecmlpaaW.PrintWords Go.Proofs.YtmkncddbecmlpaaW.PrintLast Go.Proofs.YtmkncddbecmlpaaW.PrintMore
variable {P : Program} {ops : Array Oper} {Q : Exit → Act → World → Prop} {md : Region.Mode} {S : World → Prop} {ds : List Nat} {T : Bool × List (List Nat × List Nat)} {B : List Nat}
theorem pu_ {oi : Oper} {v : Value} {fuel : Nat} {l : Array Bool} {a a' : Act} {w : World} (i : Nat) (N : Option Tmp) (hT : Aside0 (rtab md ops = T)) (hi : ops[i]? = some oi) (hN : oi.dst = N)
    (hy : Yields P ops oi v a) (ha : a.put N v = a') (h : wpAnyLast P md ops Q S ds fuel (l.setIfInBounds i true) a' w) (hc : anyT T l.toList (l.setIfInBounds i true).toList i = true := by kernel_rfl) (hQ : ∀ c a w, Q (.panic c) (a.put oi.dst v) w → Q (.panic c) a w := by exact fun _ _ _ h => h) : wpAnyLast P md ops Q S ds (fuel + 1) l a w :=
  pure_ (i := i) (N := N) _ hi hN (any_of hT.out hc) hQ hy ha h
theorem tk_ {oi : Oper} {v : Value} {fuel : Nat} {l : Array Bool} {a a' : Act} {w : World} (i : Nat) (N : Option Tmp) (hT : Aside0 (rtab md ops = T)) (hB : Aside0 (waitsOk T.2 B = true)) (hi : ops[i]? = some oi) (hN : oi.dst = N)
    (hy : YieldsIf P ops S oi v a) (hS : S w) (ha : a.put N v = a') (h : wpAnyLast P md ops Q S ds fuel (l.setIfInBounds i true) a' w) (hc : takeW T B ds l.toList (l.setIfInBounds i true).toList i = true := by kernel_rfl) (hQ : ∀ c a w, Q (.panic c) (a.put oi.dst v) w → Q (.panic c) a w := by exact fun _ _ _ h => h) : wpAnyLast P md ops Q S ds (fuel + 1) l a w :=
  take_ (i := i) (N := N) _ hi hN (take_ofW hT.out hB.out hc) hQ hy hS ha h
theorem on_ {oi : Oper} {fuel : Nat} {l : Array Bool} {a : Act} {w : World} (i : Nat) (N : Option Tmp) (hT : Aside0 (rtab md ops = T)) (hi : ops[i]? = some oi) (hN : oi.dst = N)
    (h : ∀ K : Act → World → Prop, Shut (∀ a' w', S w' → (S w' → wpAnyLast P md ops Q S ds fuel (l.setIfInBounds i true) a' w') → K a' w') → if Region.wanted oi (yielded ops a.tmps) = true then Oper.wp P oi a w K Q else K (a.put N undef) w) (hc : (readyT T.2 l.toList == [i] && l.toList.set i true == (l.setIfInBounds i true).toList) = true := by kernel_rfl) (hd : i ∉ ds := by decide) :
    wpAnyLast P md ops Q S ds (fuel + 1) l a w :=
  one_ (i := i) (N := N) _ hi hN (one_of hT.out hc) hd h
theorem la_ {oi : Oper} {fuel : Nat} {l : Array Bool} {a : Act} {w : World} (i : Nat) (N : Option Tmp) (hT : Aside0 (rtab md ops = T)) (hi : ops[i]? = some oi) (hN : oi.dst = N)
    (h : ∀ K : Act → World → Prop, Shut (∀ a' w', wpAnyLast P md ops Q S ds fuel (l.setIfInBounds i true) a' w' → K a' w') → if Region.wanted oi (yielded ops a.tmps) = true then Oper.wp P oi a w K Q else K (a.put N undef) w) (hc : (readyT T.2 l.toList == [i] && l.toList.set i true == (l.setIfInBounds i true).toList) = true := by kernel_rfl) (hd : i ∈ ds := by decide) :
    wpAnyLast P md ops Q S ds (fuel + 1) l a w :=
  last_ (i := i) (N := N) _ hi hN (one_of hT.out hc) hd h
theorem pn_ {oi : Oper} {v : Value} {fuel : Nat} {l : Array Bool} {a a' : Act} {w : World} (i : Nat) (N : Option Tmp) (hi : ops[i]? = some oi) (hN : oi.dst = N)
    (hy : Yields P ops oi v a) (ha : a.put N v = a') (h : wpAnyLast P md ops Q S ds fuel (l.setIfInBounds i true) a' w) (hc : anyB md ops l (l.setIfInBounds i true) i = true := by kernel_rfl) (hQ : ∀ c a w, Q (.panic c) (a.put oi.dst v) w → Q (.panic c) a w := by exact fun _ _ _ h => h) : wpAnyLast P md ops Q S ds (fuel + 1) l a w :=
  pure_ (i := i) (N := N) _ hi hN hc hQ hy ha h
theorem tn_ {oi : Oper} {v : Value} {fuel : Nat} {l : Array Bool} {a a' : Act} {w : World} (i : Nat) (N : Option Tmp) (hi : ops[i]? = some oi) (hN : oi.dst = N)
    (hy : YieldsIf P ops S oi v a) (hS : S w) (ha : a.put N v = a') (h : wpAnyLast P md ops Q S ds fuel (l.setIfInBounds i true) a' w) (hc : takeB md ops ds l (l.setIfInBounds i true) i = true := by kernel_rfl) (hQ : ∀ c a w, Q (.panic c) (a.put oi.dst v) w → Q (.panic c) a w := by exact fun _ _ _ h => h) : wpAnyLast P md ops Q S ds (fuel + 1) l a w :=
  take_ (i := i) (N := N) _ hi hN hc hQ hy hS ha h
theorem sa_ {α : Type _} (l : List α) (i : Nat) (a : α) : l.toArray.setIfInBounds i a = (l.set i a).toArray := List.setIfInBounds_toArray ..
theorem s0_ {α : Type _} (x : α) (l : List α) (a : α) : (x :: l).set 0 a = a :: l := rfl
theorem s1_ {α : Type _} (x : α) (l : List α) (n : Nat) (a : α) : (x :: l).set (n + 1) a = x :: l.set n a := rfl
class Later (w w' : World) : Prop where
  below : Below w.heap.size w w'
instance (w : World) : Later w w := ⟨Below.refl _ _⟩
instance (w w' : World) (o : Obj) [h : Later w w'] : Later w (w'.alloc o) := ⟨below_alloc h.below o⟩
instance (w w' : World) [h : Later w w'] : Later w w'.drew := ⟨below_drew h.below⟩
instance (w w' : World) (n : Nat) [h : Later w w'] : Later w (w'.drewN n) := ⟨pw_below_drewN h.below n⟩
theorem ob_ {α β : Type _} {o : Option α} {f : α → Option β} {b : β} (h : o.bind f = some b) : ∃ a, o = some a ∧ f a = some b := Option.bind_eq_some_iff.mp h
theorem am {p : Prop} (h : p) : Aside0 p := ⟨h⟩
theorem pb {w0 w w' : World} (h : Aside0 (Below w0.heap.size w0 w)) [k : Later w w'] : Below w0.heap.size w0 w' := below_step h.out k.below
theorem pk {w w' : World} {g : Nat} {o : Obj} (h : Aside0 (w.heap[g]? = some o)) [k : Later w w'] : w'.heap[g]? = some o := bkB h.out k.below
theorem pr {α : Type} {d : Kd α} {e base : Nat} {ok : Nat → Prop} {v : Value} {xs : List α} {w w' : World} (h : Aside0 (d.R e w base ok v xs)) [k : Later w w'] : d.R e w' base ok v xs := Kd.R_below h.out k.below
theorem pm {α : Type} {d : Kd α} {e base : Nat} {ok ok' : Nat → Prop} {v : Value} {xs : List α} {w w' : World} (h : Aside0 (d.R e w base ok v xs)) (f : ∀ k, ok k → ok' k) [k : Later w w'] : d.R e w' base ok' v xs := Kd.R_mono (Kd.R_below h.out k.below) f
section
variable {w : World} {g : Nat} {t : TypeId} {a b c d e f : Value}
theorem bc2 (h : Aside0 (w.heap[g]? = some (.cells #[a, b] t (0, 0)))) : w.cell? ⟨g, 0, none⟩ = some a ∧ w.cell? ⟨g, 1, none⟩ = some b := ⟨(blk_cell h.out 0).trans rfl, (blk_cell h.out 1).trans rfl⟩
theorem bc3 (h : Aside0 (w.heap[g]? = some (.cells #[a, b, c] t (0, 0)))) : w.cell? ⟨g, 0, none⟩ = some a ∧ w.cell? ⟨g, 1, none⟩ = some b ∧ w.cell? ⟨g, 2, none⟩ = some c := ⟨(blk_cell h.out 0).trans rfl, (blk_cell h.out 1).trans rfl, (blk_cell h.out 2).trans rfl⟩
theorem bc5 (h : Aside0 (w.heap[g]? = some (.cells #[a, b, c, d, e] t (0, 0)))) : w.cell? ⟨g, 0, none⟩ = some a ∧ w.cell? ⟨g, 1, none⟩ = some b ∧ w.cell? ⟨g, 2, none⟩ = some c ∧ w.cell? ⟨g, 3, none⟩ = some d ∧ w.cell? ⟨g, 4, none⟩ = some e := ⟨(blk_cell h.out 0).trans rfl, (blk_cell h.out 1).trans rfl, (blk_cell h.out 2).trans rfl, (blk_cell h.out 3).trans rfl, (blk_cell h.out 4).trans rfl⟩
end
section
variable {α : Type} {d : Kd α} {e base g : Nat} {ok : Nat → Prop} {v : Value} {xs : List α} {w : World} {v0 v1 v2 v3 v4 : Value}
theorem rf1 (h : d.R e w base ok v xs) (hg : ∀ k, ok k → k ≠ g) : d.R e (w.setCell ⟨g, 0, none⟩ v0) base ok v xs := Kd.R_far (p := ⟨g, 0, none⟩) h hg v0
theorem rf2 (h : d.R e w base ok v xs) (hg : ∀ k, ok k → k ≠ g) : d.R e ((w.setCell ⟨g, 0, none⟩ v0).setCell ⟨g, 1, none⟩ v1) base ok v xs := Kd.R_far (p := ⟨g, 1, none⟩) (rf1 h hg) hg v1
theorem rf3 (h : d.R e w base ok v xs) (hg : ∀ k, ok k → k ≠ g) : d.R e (((w.setCell ⟨g, 0, none⟩ v0).setCell ⟨g, 1, none⟩ v1).setCell ⟨g, 2, none⟩ v2) base ok v xs := Kd.R_far (p := ⟨g, 2, none⟩) (rf2 h hg) hg v2
theorem rf4 (h : d.R e w base ok v xs) (hg : ∀ k, ok k → k ≠ g) : d.R e ((((w.setCell ⟨g, 0, none⟩ v0).setCell ⟨g, 1, none⟩ v1).setCell ⟨g, 2, none⟩ v2).setCell ⟨g, 3, none⟩ v3) base ok v xs := Kd.R_far (p := ⟨g, 3, none⟩) (rf3 h hg) hg v3
theorem rf5 (h : d.R e w base ok v xs) (hg : ∀ k, ok k → k ≠ g) : d.R e (((((w.setCell ⟨g, 0, none⟩ v0).setCell ⟨g, 1, none⟩ v1).setCell ⟨g, 2, none⟩ v2).setCell ⟨g, 3, none⟩ v3).setCell ⟨g, 4, none⟩ v4) base ok v xs := Kd.R_far (p := ⟨g, 4, none⟩) (rf4 h hg) hg v4
end
section
variable {w : World} {g g' : Nat} {t : TypeId} {cs : Array Value} {o : Obj} {a b c d e a' b' c' d' e' : Value} {i0 i1 i2 i3 i4 : Nat}
theorem bf2 (h : Aside0 (w.heap[g]? = some (.cells cs t (0, 0)))) : w.frozen? ⟨g, 0, none⟩ = false ∧ w.frozen? ⟨g, 1, none⟩ = false := ⟨blk_frozen h.out 0, blk_frozen h.out 1⟩
theorem bf3 (h : Aside0 (w.heap[g]? = some (.cells cs t (0, 0)))) : w.frozen? ⟨g, 0, none⟩ = false ∧ w.frozen? ⟨g, 1, none⟩ = false ∧ w.frozen? ⟨g, 2, none⟩ = false := ⟨blk_frozen h.out 0, blk_frozen h.out 1, blk_frozen h.out 2⟩
theorem bf5 (h : Aside0 (w.heap[g]? = some (.cells cs t (0, 0)))) : w.frozen? ⟨g, 0, none⟩ = false ∧ w.frozen? ⟨g, 1, none⟩ = false ∧ w.frozen? ⟨g, 2, none⟩ = false ∧ w.frozen? ⟨g, 3, none⟩ = false ∧ w.frozen? ⟨g, 4, none⟩ = false := ⟨blk_frozen h.out 0, blk_frozen h.out 1, blk_frozen h.out 2, blk_frozen h.out 3, blk_frozen h.out 4⟩
theorem br5 (h : w.heap[g]? = some (.cells cs t (0, 0))) (n : Aside0 (g ≠ g')) : (((((w.setCell ⟨g', i0, none⟩ a).setCell ⟨g', i1, none⟩ b).setCell ⟨g', i2, none⟩ c).setCell ⟨g', i3, none⟩ d).setCell ⟨g', i4, none⟩ e).heap[g]? = some (.cells cs t (0, 0)) :=
  blk_far (blk_far (blk_far (blk_far (blk_far h n.out _) n.out _) n.out _) n.out _) n.out _
theorem bp2 (h : w.heap[g]? = some (.cells #[a, b] t (0, 0))) : ((w.setCell ⟨g, 0, none⟩ a').setCell ⟨g, 1, none⟩ b').heap[g]? = some (.cells #[a', b'] t (0, 0)) := blk_put (cs := #[a', b]) (blk_put (cs := #[a, b]) h 0 _ rfl) 1 _ rfl
theorem bp3 (h : w.heap[g]? = some (.cells #[a, b, c] t (0, 0))) : (((w.setCell ⟨g, 0, none⟩ a').setCell ⟨g, 1, none⟩ b').setCell ⟨g, 2, none⟩ c').heap[g]? = some (.cells #[a', b', c'] t (0, 0)) :=
  blk_put (cs := #[a', b', c]) (blk_put (cs := #[a', b, c]) (blk_put (cs := #[a, b, c]) h 0 _ rfl) 1 _ rfl) 2 _ rfl
theorem bp5 (h : w.heap[g]? = some (.cells #[a, b, c, d, e] t (0, 0))) : (((((w.setCell ⟨g, 0, none⟩ a').setCell ⟨g, 1, none⟩ b').setCell ⟨g, 2, none⟩ c').setCell ⟨g, 3, none⟩ d').setCell ⟨g, 4, none⟩ e').heap[g]? = some (.cells #[a', b', c', d', e'] t (0, 0)) :=
  blk_put (cs := #[a', b', c', d', e]) (blk_put (cs := #[a', b', c', d, e]) (blk_put (cs := #[a', b', c, d, e]) (blk_put (cs := #[a', b, c, d, e]) (blk_put (cs := #[a, b, c, d, e]) h 0 _ rfl) 1 _ rfl) 2 _ rfl) 3 _ rfl) 4 _ rfl
theorem cf5 {p : Addr} (n : Aside0 (p.block ≠ g')) : (((((w.setCell ⟨g', i0, none⟩ a).setCell ⟨g', i1, none⟩ b).setCell ⟨g', i2, none⟩ c).setCell ⟨g', i3, none⟩ d).setCell ⟨g', i4, none⟩ e).cell? p = w.cell? p :=
  (cell_far (p := ⟨g', _, none⟩) n.out _).trans ((cell_far (p := ⟨g', _, none⟩) n.out _).trans ((cell_far (p := ⟨g', _, none⟩) n.out _).trans ((cell_far (p := ⟨g', _, none⟩) n.out _).trans (cell_far (p := ⟨g', _, none⟩) n.out _))))
end
section
variable {w W : World} {g g' j n : Nat} {u : Value} {o : Obj} {t : TypeId} {cs : Array Value}
theorem ba (h : Below w.heap.size w W) : Below w.heap.size w (W.alloc o) := below_alloc h o
theorem bn (h : Below w.heap.size w W) : Below w.heap.size w (W.drewN n) := pw_below_drewN h n
theorem bd (h : Below w.heap.size w W) : Below w.heap.size w W.drew := below_drew1 h
theorem bs (hg : Aside0 (w.heap.size ≤ g)) (h : Below w.heap.size w W) : Below w.heap.size w (W.setCell ⟨g, j, none⟩ u) := below_set h hg.out
theorem ge_ (hg : g = W.heap.size) (h : Below w.heap.size w W) : Aside0 (w.heap.size ≤ g) := ⟨by rw [hg]; exact h.size⟩
theorem nl_ (hg : g' = W.heap.size) (h : Aside0 (w.heap[g]? = some o)) [k : Later w W] : Aside0 (g ≠ g') := ⟨by rw [hg]; exact Nat.ne_of_lt (blk_lt (pk h))⟩
theorem ng_ (hg : g' = W.heap.size) (h : Aside0 (w.heap[g]? = some o)) [k : Later w W] : Aside0 (g' ≠ g) := ⟨by rw [hg]; exact Nat.ne_of_gt (blk_lt (pk h))⟩
end
section
variable {α : Type} {d : Kd α} {e base g : Nat} {ok : Nat → Prop} {v : Value} {xs : List α} {w W : World} {v0 v1 v2 v3 v4 : Value} {t : TypeId} {cs : Array Value}
theorem ra {o : Obj} (h : d.R e w base ok v xs) : d.R e (w.alloc o) base ok v xs := Kd.R_alloc h o
theorem rn {n : Nat} (h : d.R e w base ok v xs) : d.R e (w.drewN n) base ok v xs := Kd.R_drewN h n
theorem rd (h : d.R e w base ok v xs) : d.R e w.drew base ok v xs := Kd.R_drew h
theorem rs5 (h : Aside0 (d.R e w base ok v xs)) (b : Aside0 (w.heap[g]? = some (.cells cs t (0, 0)))) (ht : ∀ q, q ∈ e :: d.E → q ≠ t) : d.R e (((((w.setCell ⟨g, 0, none⟩ v0).setCell ⟨g, 1, none⟩ v1).setCell ⟨g, 2, none⟩ v2).setCell ⟨g, 3, none⟩ v3).setCell ⟨g, 4, none⟩ v4) base ok v xs :=
  Kd.R_mono (rf5 (Kd.R_types h.out b.out ht) (fun _ hk => hk.2)) (fun _ h_ => h_.1)
theorem rs2 (h : Aside0 (d.R e w base ok v xs)) (b : Aside0 (w.heap[g]? = some (.cells cs t (0, 0)))) (ht : ∀ q, q ∈ e :: d.E → q ≠ t) : d.R e ((w.setCell ⟨g, 0, none⟩ v0).setCell ⟨g, 1, none⟩ v1) base ok v xs :=
  Kd.R_mono (rf2 (Kd.R_types h.out b.out ht) (fun _ hk => hk.2)) (fun _ h_ => h_.1)
theorem rs3 (h : Aside0 (d.R e w base ok v xs)) (b : Aside0 (w.heap[g]? = some (.cells cs t (0, 0)))) (ht : ∀ q, q ∈ e :: d.E → q ≠ t) : d.R e (((w.setCell ⟨g, 0, none⟩ v0).setCell ⟨g, 1, none⟩ v1).setCell ⟨g, 2, none⟩ v2) base ok v xs :=
  Kd.R_mono (rf3 (Kd.R_types h.out b.out ht) (fun _ hk => hk.2)) (fun _ h_ => h_.1)
end
end Go.Proofs.Ytmkncddbecmlpaa.Sq
end
section
set_option linter.unusedVariables false
namespace Go.Proofs.Ytmkncddbecmlpaa.Sq
open Go.RowKit Go.Proofs.YtmkncddbecmlpaaW.PrintWords Go.Proofs.YtmkncddbecmlpaaW.PrintLast Go.Proofs.YtmkncddbecmlpaaW.PrintMore
theorem sr_ {P Q : Prop} (h : Aside0 P) (f : P → Q := by intro h_; (with_reducible repeat first | apply ra | apply rn | apply rd); exact h_) : Aside0 Q := ⟨f h.out⟩
theorem sk_ {P Q : Prop} (h : Aside0 P) (f : P → Q := by intro h_; (with_reducible repeat (first | refine blk_drewN ?_ _ | refine bkD ?_ | refine bkA ?_ _)); exact h_) : Aside0 Q := ⟨f h.out⟩
theorem sC_ {P Q : Prop} (h : Aside0 P) (f : P → Q := by intro h_; repeat first | (with_reducible first | exact h_ | apply ba | apply bn | apply bd | refine bs (by assumption) ?_) | exact h_) : Q := f h.out
theorem sB_ {P Q : Prop} (h : Aside0 P) (f : P → Q := by intro h_; repeat first | (with_reducible first | exact h_ | apply ba | apply bn | apply bd | refine bs (by assumption) ?_) | exact h_) : Aside0 Q := ⟨f h.out⟩
variable {P : Program} {ops : Array Oper} {Q : Exit → Act → World → Prop} {md : Region.Mode} {S : World → Prop} {ds : List Nat} {T : Bool × List (List Nat × List Nat)} {B : List Nat}
theorem pv_ {oi : Oper} {v : Value} {fuel : Nat} {l : Array Bool} {a a' : Act} {w : World} (i : Nat) (N : Option Tmp) (hT : Aside0 (rtab md ops = T)) (h : wpAnyLast P md ops Q S ds fuel (l.setIfInBounds i true) a' w) (hi : ops[i]? = some oi := by rfl) (hN : oi.dst = N := by rfl)
    (hy : Yields P ops oi v a := by exact .inl ⟨by rfl, by intro w'; go_simp; with_reducible rfl⟩) (ha : a.put N v = a' := by simp only [Act.put, sa_, s0_, s1_, i64_w, i32_w]; rfl) (hc : anyT T l.toList (l.setIfInBounds i true).toList i = true := by kernel_rfl) (hQ : ∀ c a w, Q (.panic c) (a.put oi.dst v) w → Q (.panic c) a w := by exact fun _ _ _ h => h) : wpAnyLast P md ops Q S ds (fuel + 1) l a w :=
  pu_ i N hT hi hN hy ha h hc hQ
end Go.Proofs.Ytmkncddbecmlpaa.Sq
end
section
namespace Go.Proofs.Ytmkncddbecmlpaa.Pr
open Go.RowKit Go.Proofs.YtmkncddbecmlpaaW.PrintWords Go.Proofs.YtmkncddbecmlpaaW.PrintLast Go.Proofs.YtmkncddbecmlpaaW.PrintMore
attribute [local go_sem] max2_int min2_int max_two min_two max_three min_three max_four min_four
set_option linter.unusedVariables false
set_option linter.unusedSimpArgs false
def errW : Option Int → Value
 | none => .nilIface
 | some c => .iface 0 (.int .i64 c)
theorem errW_none : errW none = .nilIface := rfl
theorem errW_some (c : Int) : errW (some c) = .iface 0 (.int .i64 c) := rfl
theorem info5 : (Try.prog.info? 5).map (fun i => (i.zero, i.size, i.bytes)) = some (some (.int .u8 0), 1, 1) := by kernel_rfl
theorem info72 : (Try.prog.info? 72).map (fun i => (i.zero, i.size, i.bytes)) = some (some (.agg #[(.string ⟨#[]⟩), (.string ⟨#[]⟩)]), 2, 32) := by kernel_rfl
theorem info74 : (Try.prog.info? 74).map (fun i => (i.zero, i.size, i.bytes)) = some (some (.agg #[(.string ⟨#[]⟩), (.string ⟨#[]⟩), (.string ⟨#[]⟩)]), 3, 48) := by kernel_rfl
structure S72 where
 f0 : ByteArray
 f1 : ByteArray
def z72 : S72 := ⟨(⟨#[]⟩ : ByteArray), (⟨#[]⟩ : ByteArray)⟩
def k72 : Kd S72 := Kd.iso (Kd.pair Kd.string Kd.string) (fun x : S72 => (x.f0, x.f1))
theorem k72_open {w : World} {x : S72} {cs : List Value} (h : k72.K w x cs) : cs = [.string x.f0, .string x.f1] := by
 obtain ⟨_, _, rfl, rfl, rfl⟩ := h
 exact rfl
theorem k72_mk (w : World) (x : S72)  : k72.K w x [.string x.f0, .string x.f1] := ⟨[.string x.f0], [.string x.f1], rfl, rfl, rfl⟩
theorem k72_mkM (w : World) (base : Nat) (ok : Nat → Prop) (x : S72)  : k72.M w base ok x [.string x.f0, .string x.f1] := ⟨[.string x.f0], [.string x.f1], rfl, rfl, rfl⟩
def rd_T72 (xs : List S72) (i : Int) : S72 := xs.getD i.toNat z72
theorem at_T72 {w : World} {A : Option Addr} {n : Nat} {xs : List S72} (h : Kd.C k72 w A n xs) (i : Int) (h0 : 0 ≤ i) (h1 : i < n) : ∃ ad , A = some ad ∧ w.cell? (ad.add (i.toNat * 2)) = some (.string (rd_T72 xs i).f0) ∧ w.cell? ⟨(ad.add (i.toNat * 2)).block, (ad.add (i.toNat * 2)).off + 1, none⟩ = some (.string (rd_T72 xs i).f1) := by
 obtain ⟨ad, c, e, _, hK, hc0⟩ := Kd.C_get h z72 i h0 h1
 have hc : ∀ j u, c[j]? = some u → w.cell? (ad.add (i.toNat * 2 + j)) = some u := hc0
 obtain rfl := k72_open hK
 exact ⟨ad, e, hc 0 _ rfl, by rw [← add_field _ _ 1 (by omega)]; exact hc 1 _ rfl⟩
structure S74 where
 f0 : ByteArray
 f1 : ByteArray
 f2 : ByteArray
def z74 : S74 := ⟨(⟨#[]⟩ : ByteArray), (⟨#[]⟩ : ByteArray), (⟨#[]⟩ : ByteArray)⟩
def k74 : Kd S74 := Kd.iso (Kd.pair Kd.string (Kd.pair Kd.string Kd.string)) (fun x : S74 => (x.f0, x.f1, x.f2))
theorem k74_open {w : World} {x : S74} {cs : List Value} (h : k74.K w x cs) : cs = [.string x.f0, .string x.f1, .string x.f2] := by
 obtain ⟨_, _, rfl, rfl, ⟨_, _, rfl, rfl, rfl⟩⟩ := h
 exact rfl
theorem k74_mk (w : World) (x : S74)  : k74.K w x [.string x.f0, .string x.f1, .string x.f2] := ⟨[.string x.f0], [.string x.f1, .string x.f2], rfl, rfl, ⟨[.string x.f1], [.string x.f2], rfl, rfl, rfl⟩⟩
theorem k74_mkM (w : World) (base : Nat) (ok : Nat → Prop) (x : S74)  : k74.M w base ok x [.string x.f0, .string x.f1, .string x.f2] := ⟨[.string x.f0], [.string x.f1, .string x.f2], rfl, rfl, ⟨[.string x.f1], [.string x.f2], rfl, rfl, rfl⟩⟩
def rd_T74 (xs : List S74) (i : Int) : S74 := xs.getD i.toNat z74
theorem at_T74 {w : World} {A : Option Addr} {n : Nat} {xs : List S74} (h : Kd.C k74 w A n xs) (i : Int) (h0 : 0 ≤ i) (h1 : i < n) : ∃ ad , A = some ad ∧ w.cell? (ad.add (i.toNat * 3)) = some (.string (rd_T74 xs i).f0) ∧ w.cell? ⟨(ad.add (i.toNat * 3)).block, (ad.add (i.toNat * 3)).off + 1, none⟩ = some (.string (rd_T74 xs i).f1) ∧ w.cell? ⟨(ad.add (i.toNat * 3)).block, (ad.add (i.toNat * 3)).off + 2, none⟩ = some (.string (rd_T74 xs i).f2) := by
 obtain ⟨ad, c, e, _, hK, hc0⟩ := Kd.C_get h z74 i h0 h1
 have hc : ∀ j u, c[j]? = some u → w.cell? (ad.add (i.toNat * 3 + j)) = some u := hc0
 obtain rfl := k74_open hK
 exact ⟨ad, e, hc 0 _ rfl, by rw [← add_field _ _ 1 (by omega)]; exact hc 1 _ rfl, by rw [← add_field _ _ 2 (by omega)]; exact hc 2 _ rfl⟩
structure S23 where
 f0 : ByteArray
 f1 : Int
structure S50 where
 f0 : S23
 f1 : (List S72)
 f2 : (List S74)
 f3 : Bool
structure S46 where
 f0 : Int
 f1 : Int
 f2 : Int
def z46 : S46 := ⟨(0 : Int), (0 : Int), (0 : Int)⟩
def k46 : Kd S46 := Kd.iso (Kd.pair (Kd.int .i64) (Kd.pair (Kd.int .i64) (Kd.int .i64))) (fun x : S46 => (x.f0, x.f1, x.f2))
theorem k46_open {w : World} {x : S46} {cs : List Value} (h : k46.K w x cs) : cs = [.int .i64 x.f0, .int .i64 x.f1, .int .i64 x.f2] := by
 obtain ⟨_, _, rfl, rfl, ⟨_, _, rfl, rfl, rfl⟩⟩ := h
 exact rfl
theorem k46_mk (w : World) (x : S46)  : k46.K w x [.int .i64 x.f0, .int .i64 x.f1, .int .i64 x.f2] := ⟨[.int .i64 x.f0], [.int .i64 x.f1, .int .i64 x.f2], rfl, rfl, ⟨[.int .i64 x.f1], [.int .i64 x.f2], rfl, rfl, rfl⟩⟩
def rd_T46 (xs : List S46) (i : Int) : S46 := xs.getD i.toNat z46
theorem at_T46 {w : World} {A : Option Addr} {n : Nat} {xs : List S46} (h : Kd.C k46 w A n xs) (i : Int) (h0 : 0 ≤ i) (h1 : i < n) : ∃ ad , A = some ad ∧ w.cell? (ad.add (i.toNat * 3)) = some (.int .i64 (rd_T46 xs i).f0) ∧ w.cell? ⟨(ad.add (i.toNat * 3)).block, (ad.add (i.toNat * 3)).off + 1, none⟩ = some (.int .i64 (rd_T46 xs i).f1) ∧ w.cell? ⟨(ad.add (i.toNat * 3)).block, (ad.add (i.toNat * 3)).off + 2, none⟩ = some (.int .i64 (rd_T46 xs i).f2) := by
 obtain ⟨ad, c, e, _, hK, hc0⟩ := Kd.C_get h z46 i h0 h1
 have hc : ∀ j u, c[j]? = some u → w.cell? (ad.add (i.toNat * 3 + j)) = some u := hc0
 obtain rfl := k46_open hK
 exact ⟨ad, e, hc 0 _ rfl, by rw [← add_field _ _ 1 (by omega)]; exact hc 1 _ rfl, by rw [← add_field _ _ 2 (by omega)]; exact hc 2 _ rfl⟩
structure S63 where
 f0 : ByteArray
 f1 : ByteArray
end Go.Proofs.Ytmkncddbecmlpaa.Pr
end
section
namespace Go.Proofs.Ytmkncddbecmlpaa.Pr
open Go.RowKit Go.Proofs.YtmkncddbecmlpaaW.PrintWords Go.Proofs.YtmkncddbecmlpaaW.PrintLast Go.Proofs.YtmkncddbecmlpaaW.PrintMore
attribute [local go_sem] max2_int min2_int max_two min_two max_three min_three max_four min_four
set_option linter.unusedVariables false
set_option linter.unusedSimpArgs false
theorem eqA23 (d : Nat) (w : World) (x0 y0 : ByteArray) (x1 y1 : Int) :
  (Op.equalIn (d + 2) 23 (.agg #[.string x0, .int .i64 x1]) (.agg #[.string y0, .int .i64 y1])).run Try.prog w = .ok (x0.toList == y0.toList && (x1 == y1)) w := by
 refine eqA_of Try.underlying23 (by kernel_rfl) ?_
 refine eqf_cons (by rfl) (by go_simp; rfl) (by go_simp; rfl) (by go_simp) ?_
 exact eqf_last (by rfl) (by go_simp; rfl) (by go_simp; rfl) (by go_simp)
end Go.Proofs.Ytmkncddbecmlpaa.Pr
end
section
namespace Go.Proofs.Ytmkncddbecmlpaa.Pr
open Go.RowKit Go.Proofs.YtmkncddbecmlpaaW.PrintWords Go.Proofs.YtmkncddbecmlpaaW.PrintLast Go.Proofs.YtmkncddbecmlpaaW.PrintMore
attribute [local go_sem] max2_int min2_int max_two min_two max_three min_three max_four min_four
set_option linter.unusedVariables false
set_option linter.unusedSimpArgs false
theorem eqA72 (d : Nat) (w : World) (x0 y0 : ByteArray) (x1 y1 : ByteArray) :
  (Op.equalIn (d + 2) 72 (.agg #[.string x0, .string x1]) (.agg #[.string y0, .string y1])).run Try.prog w = .ok (x0.toList == y0.toList && (x1.toList == y1.toList)) w := by
 refine eqA_of Try.underlying72 (by kernel_rfl) ?_
 refine eqf_cons (by rfl) (by go_simp; rfl) (by go_simp; rfl) (by go_simp) ?_
 exact eqf_last (by rfl) (by go_simp; rfl) (by go_simp; rfl) (by go_simp)
end Go.Proofs.Ytmkncddbecmlpaa.Pr
end
section
namespace Go.Proofs.Ytmkncddbecmlpaa.Pr
open Go.RowKit Go.Proofs.YtmkncddbecmlpaaW.PrintWords Go.Proofs.YtmkncddbecmlpaaW.PrintLast Go.Proofs.YtmkncddbecmlpaaW.PrintMore
attribute [local go_sem] max2_int min2_int max_two min_two max_three min_three max_four min_four
set_option linter.unusedVariables false
set_option linter.unusedSimpArgs false
theorem eqA74 (d : Nat) (w : World) (x0 y0 : ByteArray) (x1 y1 : ByteArray) (x2 y2 : ByteArray) :
  (Op.equalIn (d + 2) 74 (.agg #[.string x0, .string x1, .string x2]) (.agg #[.string y0, .string y1, .string y2])).run Try.prog w = .ok (x0.toList == y0.toList && (x1.toList == y1.toList && (x2.toList == y2.toList))) w := by
 refine eqA_of Try.underlying74 (by kernel_rfl) ?_
 refine eqf_cons (by rfl) (by go_simp; rfl) (by go_simp; rfl) (by go_simp) ?_
 refine eqf_cons (by rfl) (by go_simp; rfl) (by go_simp; rfl) (by go_simp) ?_
 exact eqf_last (by rfl) (by go_simp; rfl) (by go_simp; rfl) (by go_simp)
end Go.Proofs.Ytmkncddbecmlpaa.Pr
end
section
namespace Go.Proofs.Ytmkncddbecmlpaa.Pr
open Go.Proofs.Ytmkncddbecmlpaa.Sq Go.RowKit Go.Proofs.YtmkncddbecmlpaaW.PrintWords Go.Proofs.YtmkncddbecmlpaaW.PrintLast Go.Proofs.YtmkncddbecmlpaaW.PrintMore
attribute [local go_sem] max2_int min2_int max_two min_two max_three min_three max_four min_four
set_option linter.unusedVariables false
set_option linter.unusedSimpArgs false
attribute [local go_sem high] eqA23 eqA72 eqA74
mutual
def r8_Same.j0 : Nat → Bool → ByteArray → Int → List (S72) → List (S74) → Bool → ByteArray → Int → List (S72) → List (S74) → Bool → Option (Bool)
 | 0, _, _, _, _, _, _, _, _, _, _, _ => none
 | k + 1, x36, xz2000, xz2001, xz2002, xz2003, xz2004, xz3000, xz3001, xz3002, xz3003, xz3004 => if x36 = true then (some false) else (r8_Same.l0 k 0 xz2000 xz2001 xz2002 xz2003 xz2004 xz3000 xz3001 xz3002 xz3003 xz3004)
def r8_Same.l0 : Nat → Int → ByteArray → Int → List (S72) → List (S74) → Bool → ByteArray → Int → List (S72) → List (S74) → Bool → Option (Bool)
 | 0, _, _, _, _, _, _, _, _, _, _, _ => none
 | k + 1, x5, xz2000, xz2001, xz2002, xz2003, xz2004, xz3000, xz3001, xz3002, xz3003, xz3004 => if x5 < (xz2002.length : Int) then (if 0 ≤ x5 then (if x5 < (xz3002.length : Int) then (if (!((((rd_T72 xz2002 x5).f0).toList) == (((rd_T72 xz3002 x5).f0).toList)) || (!((((rd_T72 xz2002 x5).f1).toList) == (((rd_T72 xz3002 x5).f1).toList)))) = true then (some false) else (r8_Same.l0 k (wrap64 (x5 + 1)) xz2000 xz2001 xz2002 xz2003 xz2004 xz3000 xz3001 xz3002 xz3003 xz3004)) else (none)) else (none)) else (r8_Same.l1 k 0 xz2000 xz2001 xz2002 xz2003 xz2004 xz3000 xz3001 xz3002 xz3003 xz3004)
def r8_Same.l1 : Nat → Int → ByteArray → Int → List (S72) → List (S74) → Bool → ByteArray → Int → List (S72) → List (S74) → Bool → Option (Bool)
 | 0, _, _, _, _, _, _, _, _, _, _, _ => none
 | k + 1, x6, xz2000, xz2001, xz2002, xz2003, xz2004, xz3000, xz3001, xz3002, xz3003, xz3004 => if x6 < (xz2003.length : Int) then (if 0 ≤ x6 then (if x6 < (xz3003.length : Int) then (if (!((((rd_T74 xz2003 x6).f0).toList) == (((rd_T74 xz3003 x6).f0).toList)) || (!((((rd_T74 xz2003 x6).f1).toList) == (((rd_T74 xz3003 x6).f1).toList)) || (!((((rd_T74 xz2003 x6).f2).toList) == (((rd_T74 xz3003 x6).f2).toList))))) = true then (some false) else (r8_Same.l1 k (wrap64 (x6 + 1)) xz2000 xz2001 xz2002 xz2003 xz2004 xz3000 xz3001 xz3002 xz3003 xz3004)) else (none)) else (none)) else (some true)
end
def r8_Same.f (k : Nat) (a0_0 : ByteArray) (a0_1 : Int) (l0_2 : List (S72)) (l0_3 : List (S74)) (a0_4 : Bool) (a1_0 : ByteArray) (a1_1 : Int) (l1_2 : List (S72)) (l1_3 : List (S74)) (a1_4 : Bool) : Option (Bool) := if (!(a0_0.toList == a1_0.toList) || (!(a0_1 == a1_1))) = true then (r8_Same.j0 k true a0_0 a0_1 l0_2 l0_3 a0_4 a1_0 a1_1 l1_2 l1_3 a1_4) else (if (a0_4 != a1_4) = true then (r8_Same.j0 k true a0_0 a0_1 l0_2 l0_3 a0_4 a1_0 a1_1 l1_2 l1_3 a1_4) else (if (l0_2.length : Int) = (l1_2.length : Int) then (r8_Same.j0 k ((l0_3.length : Int) != (l1_3.length : Int)) a0_0 a0_1 l0_2 l0_3 a0_4 a1_0 a1_1 l1_2 l1_3 a1_4) else (r8_Same.j0 k true a0_0 a0_1 l0_2 l0_3 a0_4 a1_0 a1_1 l1_2 l1_3 a1_4)))
set_option maxHeartbeats 8000000 in
set_option maxRecDepth 100000 in
theorem r8_Same.calls (k : Nat) (a0_0 : ByteArray) (a0_1 : Int) (A0_2 : Option Addr) (c0_2 : Nat) (l0_2 : List (S72)) (A0_3 : Option Addr) (c0_3 : Nat) (l0_3 : List (S74)) (a0_4 : Bool) (a1_0 : ByteArray) (a1_1 : Int) (A1_2 : Option Addr) (c1_2 : Nat) (l1_2 : List (S72)) (A1_3 : Option Addr) (c1_3 : Nat) (l1_3 : List (S74)) (a1_4 : Bool) (r : Bool) (w : World) (hr0_2 : Kd.C k72 w A0_2 l0_2.length l0_2) (hc0_2 : l0_2.length ≤ c0_2) (hr0_3 : Kd.C k74 w A0_3 l0_3.length l0_3) (hc0_3 : l0_3.length ≤ c0_3) (hr1_2 : Kd.C k72 w A1_2 l1_2.length l1_2) (hc1_2 : l1_2.length ≤ c1_2) (hr1_3 : Kd.C k74 w A1_3 l1_3.length l1_3) (hc1_3 : l1_3.length ≤ c1_3) (h : r8_Same.f k a0_0 a0_1 l0_2 l0_3 a0_4 a1_0 a1_1 l1_2 l1_3 a1_4 = some r) :
  Calls Try.prog 32 #[.agg #[.string a0_0, .int .i64 a0_1, .slice A0_2 l0_2.length c0_2, .slice A0_3 l0_3.length c0_3, .bool a0_4], .agg #[.string a1_0, .int .i64 a1_1, .slice A1_2 l1_2.length c1_2, .slice A1_3 l1_3.length c1_3, .bool a1_4]] w fun e w' => e = .returned (.bool r) ∧ Below w.heap.size w w' := by
 have hu50 := Try.underlying50
 have hu23 := Try.underlying23
 have hu72 := Try.underlying72
 have hu74 := Try.underlying74
 have HR0_2 := am hr0_2
 have HC0_2 := am hc0_2
 clear hr0_2 hc0_2
 have HR0_3 := am hr0_3
 have HC0_3 := am hc0_3
 clear hr0_3 hc0_3
 have HR1_2 := am hr1_2
 have HC1_2 := am hc1_2
 clear hr1_2 hc1_2
 have HR1_3 := am hr1_3
 have HC1_3 := am hc1_3
 clear hr1_3 hc1_3
 have HB := am (Below.refl w.heap.size w)
 have H : (if (!(a0_0.toList == a1_0.toList) || (!(a0_1 == a1_1))) = true then (r8_Same.j0 k true a0_0 a0_1 l0_2 l0_3 a0_4 a1_0 a1_1 l1_2 l1_3 a1_4) else (if (a0_4 != a1_4) = true then (r8_Same.j0 k true a0_0 a0_1 l0_2 l0_3 a0_4 a1_0 a1_1 l1_2 l1_3 a1_4) else (if (l0_2.length : Int) = (l1_2.length : Int) then (r8_Same.j0 k ((l0_3.length : Int) != (l1_3.length : Int)) a0_0 a0_1 l0_2 l0_3 a0_4 a1_0 a1_1 l1_2 l1_3 a1_4) else (r8_Same.j0 k true a0_0 a0_1 l0_2 l0_3 a0_4 a1_0 a1_1 l1_2 l1_3 a1_4)))) = some r := h
 clear h
 have HC3 := am H
 clear H
 go_enter Try.func32, Try.ntmps32
 go_upto_region 1 with (first | ((with_reducible refine gate_dst (N := 2) rfl ?_); (try (refine gate_guard (by rfl) ?_; dsimp only)); refine box_event ?hg (N := 2) ?hd (cs := #[.string a0_0, .int .i64 a0_1, .slice A0_2 l0_2.length c0_2, .slice A0_3 l0_3.length c0_3, .bool a0_4]) (t := 50) ?hr ?_; (case hd => rfl); (case hg => rfl); (case hr => first | (go_simp; done) | (go_simp; rfl)); intro gbz1 hg w4 hbox hb; have n0_ := am (below_step (pb HB) hb); have n1_ := am (hbox); have n2_ := ge_ hg (pb HB); have n3_ := ge_ hg (pb HB); clear HB; have HB := n0_; have BKz1 := n1_; have GWz1 := n2_; have GEz1 := n3_; clear n0_ n1_ n2_ n3_; clear hb hbox hg) | ((with_reducible refine gate_dst (N := 3) rfl ?_); (try (refine gate_guard (by rfl) ?_; dsimp only)); refine box_event ?hg (N := 3) ?hd (cs := #[.string a1_0, .int .i64 a1_1, .slice A1_2 l1_2.length c1_2, .slice A1_3 l1_3.length c1_3, .bool a1_4]) (t := 50) ?hr ?_; (case hd => rfl); (case hg => rfl); (case hr => first | (go_simp; done) | (go_simp; rfl)); intro gbz2 hg w5 hbox hb; have n0_ := am (bkB (pk BKz1) hb); have n1_ := am (below_step (sC_ HB) hb); have n2_ := am (hbox); have n3_ := ge_ hg (sC_ HB); have n4_ := ge_ hg (sC_ HB); have n5_ := nl_ hg BKz1; have n6_ := ng_ hg BKz1; clear BKz1; clear HB; have BKz1 := n0_; have HB := n1_; have BKz2 := n2_; have GWz2 := n3_; have GEz2 := n4_; have NBz1_z2 := n5_; have NBz2_z1 := n6_; clear n0_ n1_ n2_ n3_ n4_ n5_ n6_; clear hb hbox hg))
 repeat (go_quiet (first | ((with_reducible refine gate_dst (N := 2) rfl ?_); (try (refine gate_guard (by rfl) ?_; dsimp only)); refine box_event ?hg (N := 2) ?hd (cs := #[.string a0_0, .int .i64 a0_1, .slice A0_2 l0_2.length c0_2, .slice A0_3 l0_3.length c0_3, .bool a0_4]) (t := 50) ?hr ?_; (case hd => rfl); (case hg => rfl); (case hr => first | (go_simp; done) | (go_simp; rfl)); intro gbz1 hg w4 hbox hb; have n0_ := am (below_step (pb HB) hb); have n1_ := am (hbox); have n2_ := ge_ hg (pb HB); have n3_ := ge_ hg (pb HB); clear HB; have HB := n0_; have BKz1 := n1_; have GWz1 := n2_; have GEz1 := n3_; clear n0_ n1_ n2_ n3_; clear hb hbox hg) | ((with_reducible refine gate_dst (N := 3) rfl ?_); (try (refine gate_guard (by rfl) ?_; dsimp only)); refine box_event ?hg (N := 3) ?hd (cs := #[.string a1_0, .int .i64 a1_1, .slice A1_2 l1_2.length c1_2, .slice A1_3 l1_3.length c1_3, .bool a1_4]) (t := 50) ?hr ?_; (case hd => rfl); (case hg => rfl); (case hr => first | (go_simp; done) | (go_simp; rfl)); intro gbz2 hg w5 hbox hb; have n0_ := am (bkB (pk BKz1) hb); have n1_ := am (below_step (sC_ HB) hb); have n2_ := am (hbox); have n3_ := ge_ hg (sC_ HB); have n4_ := ge_ hg (sC_ HB); have n5_ := nl_ hg BKz1; have n6_ := ng_ hg BKz1; clear BKz1; clear HB; have BKz1 := n0_; have HB := n1_; have BKz2 := n2_; have GWz2 := n3_; have GEz2 := n4_; have NBz1_z2 := n5_; have NBz2_z1 := n6_; clear n0_ n1_ n2_ n3_ n4_ n5_ n6_; clear hb hbox hg)); go_upto_region 1 with (first | ((with_reducible refine gate_dst (N := 2) rfl ?_); (try (refine gate_guard (by rfl) ?_; dsimp only)); refine box_event ?hg (N := 2) ?hd (cs := #[.string a0_0, .int .i64 a0_1, .slice A0_2 l0_2.length c0_2, .slice A0_3 l0_3.length c0_3, .bool a0_4]) (t := 50) ?hr ?_; (case hd => rfl); (case hg => rfl); (case hr => first | (go_simp; done) | (go_simp; rfl)); intro gbz1 hg w4 hbox hb; have n0_ := am (below_step (pb HB) hb); have n1_ := am (hbox); have n2_ := ge_ hg (pb HB); have n3_ := ge_ hg (pb HB); clear HB; have HB := n0_; have BKz1 := n1_; have GWz1 := n2_; have GEz1 := n3_; clear n0_ n1_ n2_ n3_; clear hb hbox hg) | ((with_reducible refine gate_dst (N := 3) rfl ?_); (try (refine gate_guard (by rfl) ?_; dsimp only)); refine box_event ?hg (N := 3) ?hd (cs := #[.string a1_0, .int .i64 a1_1, .slice A1_2 l1_2.length c1_2, .slice A1_3 l1_3.length c1_3, .bool a1_4]) (t := 50) ?hr ?_; (case hd => rfl); (case hg => rfl); (case hr => first | (go_simp; done) | (go_simp; rfl)); intro gbz2 hg w5 hbox hb; have n0_ := am (bkB (pk BKz1) hb); have n1_ := am (below_step (sC_ HB) hb); have n2_ := am (hbox); have n3_ := ge_ hg (sC_ HB); have n4_ := ge_ hg (sC_ HB); have n5_ := nl_ hg BKz1; have n6_ := ng_ hg BKz1; clear BKz1; clear HB; have BKz1 := n0_; have HB := n1_; have BKz2 := n2_; have GWz2 := n3_; have GEz2 := n4_; have NBz1_z2 := n5_; have NBz2_z1 := n6_; clear n0_ n1_ n2_ n3_ n4_ n5_ n6_; clear hb hbox hg)))
 (try simp only [Act.put, List.setIfInBounds_toArray, List.set_cons_zero, List.set_cons_succ])
 go_cut [36] (fun v36 wc => ∃ (kq : Nat) (x36_2 : Bool), v36 = .bool x36_2 ∧ Aside0 (r8_Same.j0 kq x36_2 a0_0 a0_1 l0_2 l0_3 a0_4 a1_0 a1_1 l1_2 l1_3 a1_4 = some r) ∧ Aside0 (kq ≤ k) ∧ Aside0 (wc.heap[gbz1]? = some (.cells #[.string a0_0, .int .i64 a0_1, (.slice A0_2 l0_2.length c0_2), (.slice A0_3 l0_3.length c0_3), .bool a0_4] 50 (0, 0))) ∧ Aside0 (wc.heap[gbz2]? = some (.cells #[.string a1_0, .int .i64 a1_1, (.slice A1_2 l1_2.length c1_2), (.slice A1_3 l1_3.length c1_3), .bool a1_4] 50 (0, 0))) ∧ Aside0 (Below w.heap.size w wc))
 case first =>
  have H := HC3.out
  clear HC3
  by_cases c6 : (!(a0_0.toList == a1_0.toList) || (!(a0_1 == a1_1))) = true
  ·rw [if_pos c6] at H
   have c6b0 : (!(a0_0.toList == a1_0.toList) || (!(a0_1 == a1_1))) = true := c6
   clear c6
   (first | rw [c6b0] | rw [c6b1] | (simp only [i64_w, i32_w]; rw [c6b0]) | skip)
   have H' := am H
   clear H
   have hnb7 := NBz1_z2.out
   have hnc7 := NBz2_z1.out
   obtain ⟨hcz8_0, hcz8_1, hcz8_2, hcz8_3, hcz8_4⟩ := bc5 BKz1
   obtain ⟨hfz8_0, hfz8_1, hfz8_2, hfz8_3, hfz8_4⟩ := bf5 BKz1
   obtain ⟨hcz9_0, hcz9_1, hcz9_2, hcz9_3, hcz9_4⟩ := bc5 BKz2
   obtain ⟨hfz9_0, hfz9_1, hfz9_2, hfz9_3, hfz9_4⟩ := bf5 BKz2
   go_wp2
   repeat (go_quiet (fail); try go_wp2)
   go_meet
   case rel => exact ⟨_, (true), (by first | rfl | (simp; done) | (simp [*]; done)), H', ⟨by first | omega | exact Nat.le_refl _⟩, (sk_ BKz1), (sk_ BKz2), (sB_ HB)⟩
  rw [if_neg c6] at H
  have c6b0 : (!(a0_0.toList == a1_0.toList) || (!(a0_1 == a1_1))) = false := by simpa using c6
  clear c6
  (first | rw [c6b0] | rw [c6b1] | (simp only [i64_w, i32_w]; rw [c6b0]) | skip)
  by_cases c10 : (a0_4 != a1_4) = true
  ·rw [if_pos c10] at H
   have c10b0 : (a0_4 != a1_4) = true := c10
   (try (have c10b1 : decide (a0_4 = a1_4) = false := by simpa using c10))
   (try (have c10b2 : (a0_4 == a1_4) = false := by simpa using c10))
   (try (have c10b3 : ¬ (a0_4 = a1_4) := by simpa using c10))
   clear c10
   have H' := am H
   clear H
   have hnb11 := NBz1_z2.out
   have hnc11 := NBz2_z1.out
   obtain ⟨hcz12_0, hcz12_1, hcz12_2, hcz12_3, hcz12_4⟩ := bc5 BKz1
   obtain ⟨hfz12_0, hfz12_1, hfz12_2, hfz12_3, hfz12_4⟩ := bf5 BKz1
   obtain ⟨hcz13_0, hcz13_1, hcz13_2, hcz13_3, hcz13_4⟩ := bc5 BKz2
   obtain ⟨hfz13_0, hfz13_1, hfz13_2, hfz13_3, hfz13_4⟩ := bf5 BKz2
   go_wp2
   repeat (go_quiet (fail); try go_wp2)
   go_meet
   case rel => exact ⟨_, (true), (by first | rfl | (simp; done) | (simp [*]; done)), H', ⟨by first | omega | exact Nat.le_refl _⟩, (sk_ BKz1), (sk_ BKz2), (sB_ HB)⟩
  rw [if_neg c10] at H
  have c10b0 : (a0_4 != a1_4) = false := by simpa using c10
  (try (have c10b1 : decide (a0_4 = a1_4) = true := by simpa using c10))
  (try (have c10b2 : (a0_4 == a1_4) = true := by simpa using c10))
  clear c10
  by_cases c14 : (l0_2.length : Int) = (l1_2.length : Int)
  rotate_left
  ·rw [if_neg c14] at H
   have c14b0 : ((l0_2.length : Int) == (l1_2.length : Int)) = false := beq_eq_false_iff_ne.mpr c14
   have c14b1 : ((l0_2.length : Int) != (l1_2.length : Int)) = true := bne_iff_ne.mpr c14
   have c14b2 : (l0_2.length == l1_2.length) = false := by first | simpa using c14 | (simp at c14 ⊢; omega)
   have H' := am H
   clear H
   have hnb18 := NBz1_z2.out
   have hnc18 := NBz2_z1.out
   obtain ⟨hcz19_0, hcz19_1, hcz19_2, hcz19_3, hcz19_4⟩ := bc5 BKz1
   obtain ⟨hfz19_0, hfz19_1, hfz19_2, hfz19_3, hfz19_4⟩ := bf5 BKz1
   obtain ⟨hcz20_0, hcz20_1, hcz20_2, hcz20_3, hcz20_4⟩ := bc5 BKz2
   obtain ⟨hfz20_0, hfz20_1, hfz20_2, hfz20_3, hfz20_4⟩ := bf5 BKz2
   go_wp2
   repeat (go_quiet (fail); try go_wp2)
   go_meet
   case rel => exact ⟨_, (true), (by first | rfl | (simp; done) | (simp [*]; done)), H', ⟨by first | omega | exact Nat.le_refl _⟩, (sk_ BKz1), (sk_ BKz2), (sB_ HB)⟩
  rw [if_pos c14] at H
  have c14b0 : ((l0_2.length : Int) == (l1_2.length : Int)) = true := beq_iff_eq.mpr c14
  have c14b1 : ((l0_2.length : Int) != (l1_2.length : Int)) = false := bne_eq_false_iff_eq.mpr c14
  have c14b2 : (l0_2.length == l1_2.length) = true := by first | simpa using c14 | (simp at c14 ⊢; omega)
  clear c14
  have H' := am H
  clear H
  have hnb15 := NBz1_z2.out
  have hnc15 := NBz2_z1.out
  obtain ⟨hcz16_0, hcz16_1, hcz16_2, hcz16_3, hcz16_4⟩ := bc5 BKz1
  obtain ⟨hfz16_0, hfz16_1, hfz16_2, hfz16_3, hfz16_4⟩ := bf5 BKz1
  obtain ⟨hcz17_0, hcz17_1, hcz17_2, hcz17_3, hcz17_4⟩ := bc5 BKz2
  obtain ⟨hfz17_0, hfz17_1, hfz17_2, hfz17_3, hfz17_4⟩ := bf5 BKz2
  go_wp2
  repeat (go_quiet (fail); try go_wp2)
  go_meet
  case rel => exact ⟨_, (((l0_3.length : Int) != (l1_3.length : Int))), (by first | rfl | (simp; done) | (simp [*]; done)), H', ⟨by first | omega | exact Nat.le_refl _⟩, (sk_ BKz1), (sk_ BKz2), (sB_ HB)⟩
 clear HC3
 try clear c1
 try clear p2
 try clear c3
 try clear c6
 try clear c6b0
 try clear c6b1
 try clear c7
 try clear c10
 try clear c10b0
 try clear c10b1
 try clear c10b2
 try clear c11
 try clear c14
 try clear c14b0
 try clear c14b1
 try clear c14b2
 try clear c15
 try clear c18
 try clear hcz12_0
 try clear hcz12_1
 try clear hcz12_2
 try clear hcz12_3
 try clear hcz12_4
 try clear hcz13_0
 try clear hcz13_1
 try clear hcz13_2
 try clear hcz13_3
 try clear hcz13_4
 try clear hcz16_0
 try clear hcz16_1
 try clear hcz16_2
 try clear hcz16_3
 try clear hcz16_4
 try clear hcz17_0
 try clear hcz17_1
 try clear hcz17_2
 try clear hcz17_3
 try clear hcz17_4
 try clear hcz19_0
 try clear hcz19_1
 try clear hcz19_2
 try clear hcz19_3
 try clear hcz19_4
 try clear hcz20_0
 try clear hcz20_1
 try clear hcz20_2
 try clear hcz20_3
 try clear hcz20_4
 try clear hcz8_0
 try clear hcz8_1
 try clear hcz8_2
 try clear hcz8_3
 try clear hcz8_4
 try clear hcz9_0
 try clear hcz9_1
 try clear hcz9_2
 try clear hcz9_3
 try clear hcz9_4
 try clear hfz12_0
 try clear hfz12_1
 try clear hfz12_2
 try clear hfz12_3
 try clear hfz12_4
 try clear hfz13_0
 try clear hfz13_1
 try clear hfz13_2
 try clear hfz13_3
 try clear hfz13_4
 try clear hfz16_0
 try clear hfz16_1
 try clear hfz16_2
 try clear hfz16_3
 try clear hfz16_4
 try clear hfz17_0
 try clear hfz17_1
 try clear hfz17_2
 try clear hfz17_3
 try clear hfz17_4
 try clear hfz19_0
 try clear hfz19_1
 try clear hfz19_2
 try clear hfz19_3
 try clear hfz19_4
 try clear hfz20_0
 try clear hfz20_1
 try clear hfz20_2
 try clear hfz20_3
 try clear hfz20_4
 try clear hfz8_0
 try clear hfz8_1
 try clear hfz8_2
 try clear hfz8_3
 try clear hfz8_4
 try clear hfz9_0
 try clear hfz9_1
 try clear hfz9_2
 try clear hfz9_3
 try clear hfz9_4
 obtain ⟨kq, x36_2, rfl, HA, HJ2, BKz1, BKz2, HB⟩ := hcut
 cases kq with
 | zero => exact absurd HA.out (by simp [r8_Same.j0])
 | succ kj2 => ?_
 have H := HA.out
 clear HA
 simp only [r8_Same.j0] at H
 by_cases c21 : x36_2 = true
 ·subst c21
  have H1 : (some false) = some r := by rw [if_pos rfl] at H; exact H
  clear H
  have H := H1
  clear H1
  obtain rfl := Option.some.inj H
  go_wp2
  repeat (go_quiet (fail); try go_wp2)
  go_ret
  exact ⟨by first | rfl | (simp <;> rfl) | (simp [*] <;> rfl), sC_ HB⟩
 replace c21 := Bool.eq_false_iff.mpr c21
 subst c21
 have H1 : (r8_Same.l0 kj2 0 a0_0 a0_1 l0_2 l0_3 a0_4 a1_0 a1_1 l1_2 l1_3 a1_4) = some r := by rw [if_neg (show ¬ (false = true) by decide)] at H; exact H
 clear H
 have H := H1
 clear H1
 have H' := am H
 clear H
 go_wp2
 repeat (go_quiet (fail); try go_wp2)
 go_loopg [5] kj2 (fun kq v5 w' => ∃ (x5_2 : Int), v5 = .int .i64 x5_2 ∧ Aside0 (r8_Same.l0 kq x5_2 a0_0 a0_1 l0_2 l0_3 a0_4 a1_0 a1_1 l1_2 l1_3 a1_4 = some r) ∧ Aside0 (kq ≤ kj2) ∧ Aside0 (w'.heap[gbz1]? = some (.cells #[.string a0_0, .int .i64 a0_1, (.slice A0_2 l0_2.length c0_2), (.slice A0_3 l0_3.length c0_3), .bool a0_4] 50 (0, 0))) ∧ Aside0 (w'.heap[gbz2]? = some (.cells #[.string a1_0, .int .i64 a1_1, (.slice A1_2 l1_2.length c1_2), (.slice A1_3 l1_3.length c1_3), .bool a1_4] 50 (0, 0))) ∧ Aside0 (Below w.heap.size w w'))
 case atStart => exact ⟨(0), (by first | rfl | (simp; done) | (simp [*]; done)), H', ⟨Nat.le_refl _⟩, (sk_ BKz1), (sk_ BKz2), (sB_ HB)⟩
 clear H'
 try clear c1
 try clear c2
 try clear p2
 try clear c3
 try clear c6
 try clear c6b0
 try clear c6b1
 try clear c7
 try clear c10
 try clear c10b0
 try clear c10b1
 try clear c10b2
 try clear c11
 try clear c14
 try clear c14b0
 try clear c14b1
 try clear c14b2
 try clear c15
 try clear c18
 try clear c21
 try clear hcz12_0
 try clear hcz12_1
 try clear hcz12_2
 try clear hcz12_3
 try clear hcz12_4
 try clear hcz13_0
 try clear hcz13_1
 try clear hcz13_2
 try clear hcz13_3
 try clear hcz13_4
 try clear hcz16_0
 try clear hcz16_1
 try clear hcz16_2
 try clear hcz16_3
 try clear hcz16_4
 try clear hcz17_0
 try clear hcz17_1
 try clear hcz17_2
 try clear hcz17_3
 try clear hcz17_4
 try clear hcz19_0
 try clear hcz19_1
 try clear hcz19_2
 try clear hcz19_3
 try clear hcz19_4
 try clear hcz20_0
 try clear hcz20_1
 try clear hcz20_2
 try clear hcz20_3
 try clear hcz20_4
 try clear hcz8_0
 try clear hcz8_1
 try clear hcz8_2
 try clear hcz8_3
 try clear hcz8_4
 try clear hcz9_0
 try clear hcz9_1
 try clear hcz9_2
 try clear hcz9_3
 try clear hcz9_4
 try clear hfz12_0
 try clear hfz12_1
 try clear hfz12_2
 try clear hfz12_3
 try clear hfz12_4
 try clear hfz13_0
 try clear hfz13_1
 try clear hfz13_2
 try clear hfz13_3
 try clear hfz13_4
 try clear hfz16_0
 try clear hfz16_1
 try clear hfz16_2
 try clear hfz16_3
 try clear hfz16_4
 try clear hfz17_0
 try clear hfz17_1
 try clear hfz17_2
 try clear hfz17_3
 try clear hfz17_4
 try clear hfz19_0
 try clear hfz19_1
 try clear hfz19_2
 try clear hfz19_3
 try clear hfz19_4
 try clear hfz20_0
 try clear hfz20_1
 try clear hfz20_2
 try clear hfz20_3
 try clear hfz20_4
 try clear hfz8_0
 try clear hfz8_1
 try clear hfz8_2
 try clear hfz8_3
 try clear hfz8_4
 try clear hfz9_0
 try clear hfz9_1
 try clear hfz9_2
 try clear hfz9_3
 try clear hfz9_4
 try clear p2
 obtain ⟨x5_2, rfl, HA, HK2, BKz1, BKz2, HB⟩ := hrel
 cases gk with
 | zero => exact absurd HA.out (by simp [r8_Same.l0])
 | succ k2 => ?_
 have H := HA.out
 clear HA
 simp only [r8_Same.l0] at H
 by_cases c22 : x5_2 < (l0_2.length : Int)
 ·rw [if_pos c22] at H
  have c22b0 : decide (x5_2 < (l0_2.length : Int)) = true := decide_eq_true c22
  clear c22
  by_cases c23 : 0 ≤ x5_2
  rotate_left
  ·rw [if_neg c23] at H
   exact absurd H (by simp)
  rw [if_pos c23] at H
  have c23b0 : decide (0 ≤ x5_2) = true := decide_eq_true c23
  clear c23
  by_cases c24 : x5_2 < (l1_2.length : Int)
  rotate_left
  ·rw [if_neg c24] at H
   exact absurd H (by simp)
  rw [if_pos c24] at H
  have c24b0 : decide (x5_2 < (l1_2.length : Int)) = true := decide_eq_true c24
  clear c24
  by_cases c25 : (!((((rd_T72 l0_2 x5_2).f0).toList) == (((rd_T72 l1_2 x5_2).f0).toList)) || (!((((rd_T72 l0_2 x5_2).f1).toList) == (((rd_T72 l1_2 x5_2).f1).toList)))) = true
  ·rw [if_pos c25] at H
   have c25b0 : (!((((rd_T72 l0_2 x5_2).f0).toList) == (((rd_T72 l1_2 x5_2).f0).toList)) || (!((((rd_T72 l0_2 x5_2).f1).toList) == (((rd_T72 l1_2 x5_2).f1).toList)))) = true := c25
   clear c25
   obtain rfl := Option.some.inj H
   have hnb26 := NBz1_z2.out
   have hnc26 := NBz2_z1.out
   obtain ⟨hcz27_0, hcz27_1, hcz27_2, hcz27_3, hcz27_4⟩ := bc5 BKz1
   obtain ⟨hfz27_0, hfz27_1, hfz27_2, hfz27_3, hfz27_4⟩ := bf5 BKz1
   have pz3 : 0 ≤ (x5_2 : Int) := of_decide_eq_true (by first | (with_reducible assumption) | assumption)
   have qz3 : x5_2 < (l0_2.length : Int) := of_decide_eq_true (by first | (with_reducible assumption) | assumption)
   obtain ⟨adz3, ez3, hxz3_0, hxz3_1⟩ := at_T72 HR0_2.out x5_2 pz3 qz3
   cases ez3
   replace hxz3_0 := (HB.out.cell (World.block_lt_of_cell? w _ hxz3_0)).trans hxz3_0
   replace hxz3_1 := (HB.out.cell (World.block_lt_of_cell? w _ hxz3_1)).trans hxz3_1
   replace pz3 := eq_true pz3
   replace qz3 := eq_true qz3
   obtain ⟨hcz28_0, hcz28_1, hcz28_2, hcz28_3, hcz28_4⟩ := bc5 BKz2
   obtain ⟨hfz28_0, hfz28_1, hfz28_2, hfz28_3, hfz28_4⟩ := bf5 BKz2
   have pz4 : 0 ≤ (x5_2 : Int) := of_decide_eq_true (by first | (with_reducible assumption) | assumption)
   have qz4 : x5_2 < (l1_2.length : Int) := of_decide_eq_true (by first | (with_reducible assumption) | assumption)
   obtain ⟨adz4, ez4, hxz4_0, hxz4_1⟩ := at_T72 HR1_2.out x5_2 pz4 qz4
   cases ez4
   replace hxz4_0 := (HB.out.cell (World.block_lt_of_cell? w _ hxz4_0)).trans hxz4_0
   replace hxz4_1 := (HB.out.cell (World.block_lt_of_cell? w _ hxz4_1)).trans hxz4_1
   replace pz4 := eq_true pz4
   replace qz4 := eq_true qz4
   go_wp2
   repeat (go_quiet (fail); try go_wp2)
   go_ret
   exact ⟨by first | rfl | (simp <;> rfl) | (simp [*] <;> rfl), sC_ HB⟩
  rw [if_neg c25] at H
  have c25b0 : (!((((rd_T72 l0_2 x5_2).f0).toList) == (((rd_T72 l1_2 x5_2).f0).toList)) || (!((((rd_T72 l0_2 x5_2).f1).toList) == (((rd_T72 l1_2 x5_2).f1).toList)))) = false := by simpa using c25
  clear c25
  have H' := am H
  clear H
  have hnb29 := NBz1_z2.out
  have hnc29 := NBz2_z1.out
  obtain ⟨hcz30_0, hcz30_1, hcz30_2, hcz30_3, hcz30_4⟩ := bc5 BKz1
  obtain ⟨hfz30_0, hfz30_1, hfz30_2, hfz30_3, hfz30_4⟩ := bf5 BKz1
  have pz3 : 0 ≤ (x5_2 : Int) := of_decide_eq_true (by first | (with_reducible assumption) | assumption)
  have qz3 : x5_2 < (l0_2.length : Int) := of_decide_eq_true (by first | (with_reducible assumption) | assumption)
  obtain ⟨adz3, ez3, hxz3_0, hxz3_1⟩ := at_T72 HR0_2.out x5_2 pz3 qz3
  cases ez3
  replace hxz3_0 := (HB.out.cell (World.block_lt_of_cell? w _ hxz3_0)).trans hxz3_0
  replace hxz3_1 := (HB.out.cell (World.block_lt_of_cell? w _ hxz3_1)).trans hxz3_1
  replace pz3 := eq_true pz3
  replace qz3 := eq_true qz3
  obtain ⟨hcz31_0, hcz31_1, hcz31_2, hcz31_3, hcz31_4⟩ := bc5 BKz2
  obtain ⟨hfz31_0, hfz31_1, hfz31_2, hfz31_3, hfz31_4⟩ := bf5 BKz2
  have pz4 : 0 ≤ (x5_2 : Int) := of_decide_eq_true (by first | (with_reducible assumption) | assumption)
  have qz4 : x5_2 < (l1_2.length : Int) := of_decide_eq_true (by first | (with_reducible assumption) | assumption)
  obtain ⟨adz4, ez4, hxz4_0, hxz4_1⟩ := at_T72 HR1_2.out x5_2 pz4 qz4
  cases ez4
  replace hxz4_0 := (HB.out.cell (World.block_lt_of_cell? w _ hxz4_0)).trans hxz4_0
  replace hxz4_1 := (HB.out.cell (World.block_lt_of_cell? w _ hxz4_1)).trans hxz4_1
  replace pz4 := eq_true pz4
  replace qz4 := eq_true qz4
  go_wp2
  repeat (go_quiet (fail); try go_wp2)
  go_roundg k2
  case measure => have := HJ2.out; have := HK2.out; omega
  case rel => exact ⟨(wrap64 (x5_2 + 1)), (by first | rfl | (simp; done) | (simp [*]; done)), H', ⟨by have := HJ2.out; have := HK2.out; omega⟩, (sk_ BKz1), (sk_ BKz2), (sB_ HB)⟩
 rw [if_neg c22] at H
 have c22b0 : decide (x5_2 < (l0_2.length : Int)) = false := decide_eq_false c22
 clear c22
 have H' := am H
 clear H
 have hnb32 := NBz1_z2.out
 have hnc32 := NBz2_z1.out
 obtain ⟨hcz33_0, hcz33_1, hcz33_2, hcz33_3, hcz33_4⟩ := bc5 BKz1
 obtain ⟨hfz33_0, hfz33_1, hfz33_2, hfz33_3, hfz33_4⟩ := bf5 BKz1
 go_wp2
 repeat (go_quiet (fail); try go_wp2)
 go_loopg [6] k2 (fun kq v6 w' => ∃ (x6_3 : Int), v6 = .int .i64 x6_3 ∧ Aside0 (r8_Same.l1 kq x6_3 a0_0 a0_1 l0_2 l0_3 a0_4 a1_0 a1_1 l1_2 l1_3 a1_4 = some r) ∧ Aside0 (kq ≤ k2) ∧ Aside0 (w'.heap[gbz1]? = some (.cells #[.string a0_0, .int .i64 a0_1, (.slice A0_2 l0_2.length c0_2), (.slice A0_3 l0_3.length c0_3), .bool a0_4] 50 (0, 0))) ∧ Aside0 (w'.heap[gbz2]? = some (.cells #[.string a1_0, .int .i64 a1_1, (.slice A1_2 l1_2.length c1_2), (.slice A1_3 l1_3.length c1_3), .bool a1_4] 50 (0, 0))) ∧ Aside0 (Below w.heap.size w w'))
 case atStart => exact ⟨(0), (by first | rfl | (simp; done) | (simp [*]; done)), H', ⟨Nat.le_refl _⟩, (sk_ BKz1), (sk_ BKz2), (sB_ HB)⟩
 clear H'
 try clear c1
 try clear c2
 try clear p2
 try clear c3
 try clear p3
 try clear q3
 try clear hx3
 try clear c6
 try clear c6b0
 try clear c6b1
 try clear p6
 try clear c7
 try clear c10
 try clear c10b0
 try clear c10b1
 try clear c10b2
 try clear c11
 try clear c14
 try clear c14b0
 try clear c14b1
 try clear c14b2
 try clear c15
 try clear c18
 try clear c21
 try clear c22
 try clear c22b0
 try clear c23
 try clear c23b0
 try clear c24
 try clear c24b0
 try clear c25
 try clear c25b0
 try clear c26
 try clear c29
 try clear c32
 try clear p32
 try clear q32
 try clear hx32
 try clear hcz12_0
 try clear hcz12_1
 try clear hcz12_2
 try clear hcz12_3
 try clear hcz12_4
 try clear hcz13_0
 try clear hcz13_1
 try clear hcz13_2
 try clear hcz13_3
 try clear hcz13_4
 try clear hcz16_0
 try clear hcz16_1
 try clear hcz16_2
 try clear hcz16_3
 try clear hcz16_4
 try clear hcz17_0
 try clear hcz17_1
 try clear hcz17_2
 try clear hcz17_3
 try clear hcz17_4
 try clear hcz19_0
 try clear hcz19_1
 try clear hcz19_2
 try clear hcz19_3
 try clear hcz19_4
 try clear hcz20_0
 try clear hcz20_1
 try clear hcz20_2
 try clear hcz20_3
 try clear hcz20_4
 try clear hcz27_0
 try clear hcz27_1
 try clear hcz27_2
 try clear hcz27_3
 try clear hcz27_4
 try clear hcz28_0
 try clear hcz28_1
 try clear hcz28_2
 try clear hcz28_3
 try clear hcz28_4
 try clear hcz30_0
 try clear hcz30_1
 try clear hcz30_2
 try clear hcz30_3
 try clear hcz30_4
 try clear hcz31_0
 try clear hcz31_1
 try clear hcz31_2
 try clear hcz31_3
 try clear hcz31_4
 try clear hcz33_0
 try clear hcz33_1
 try clear hcz33_2
 try clear hcz33_3
 try clear hcz33_4
 try clear hcz8_0
 try clear hcz8_1
 try clear hcz8_2
 try clear hcz8_3
 try clear hcz8_4
 try clear hcz9_0
 try clear hcz9_1
 try clear hcz9_2
 try clear hcz9_3
 try clear hcz9_4
 try clear hfz12_0
 try clear hfz12_1
 try clear hfz12_2
 try clear hfz12_3
 try clear hfz12_4
 try clear hfz13_0
 try clear hfz13_1
 try clear hfz13_2
 try clear hfz13_3
 try clear hfz13_4
 try clear hfz16_0
 try clear hfz16_1
 try clear hfz16_2
 try clear hfz16_3
 try clear hfz16_4
 try clear hfz17_0
 try clear hfz17_1
 try clear hfz17_2
 try clear hfz17_3
 try clear hfz17_4
 try clear hfz19_0
 try clear hfz19_1
 try clear hfz19_2
 try clear hfz19_3
 try clear hfz19_4
 try clear hfz20_0
 try clear hfz20_1
 try clear hfz20_2
 try clear hfz20_3
 try clear hfz20_4
 try clear hfz27_0
 try clear hfz27_1
 try clear hfz27_2
 try clear hfz27_3
 try clear hfz27_4
 try clear hfz28_0
 try clear hfz28_1
 try clear hfz28_2
 try clear hfz28_3
 try clear hfz28_4
 try clear hfz30_0
 try clear hfz30_1
 try clear hfz30_2
 try clear hfz30_3
 try clear hfz30_4
 try clear hfz31_0
 try clear hfz31_1
 try clear hfz31_2
 try clear hfz31_3
 try clear hfz31_4
 try clear hfz33_0
 try clear hfz33_1
 try clear hfz33_2
 try clear hfz33_3
 try clear hfz33_4
 try clear hfz8_0
 try clear hfz8_1
 try clear hfz8_2
 try clear hfz8_3
 try clear hfz8_4
 try clear hfz9_0
 try clear hfz9_1
 try clear hfz9_2
 try clear hfz9_3
 try clear hfz9_4
 try clear hxz3_0
 try clear hxz3_1
 try clear hxz4_0
 try clear hxz4_1
 try clear p2
 try clear pz3
 try clear pz4
 try clear qz3
 try clear qz4
 obtain ⟨x6_3, rfl, HA, HK3, BKz1, BKz2, HB⟩ := hrel
 cases gk with
 | zero => exact absurd HA.out (by simp [r8_Same.l1])
 | succ k3 => ?_
 have H := HA.out
 clear HA
 simp only [r8_Same.l1] at H
 by_cases c34 : x6_3 < (l0_3.length : Int)
 rotate_left
 ·rw [if_neg c34] at H
  have c34b0 : decide (x6_3 < (l0_3.length : Int)) = false := decide_eq_false c34
  clear c34
  obtain rfl := Option.some.inj H
  have hnb44 := NBz1_z2.out
  have hnc44 := NBz2_z1.out
  obtain ⟨hcz45_0, hcz45_1, hcz45_2, hcz45_3, hcz45_4⟩ := bc5 BKz1
  obtain ⟨hfz45_0, hfz45_1, hfz45_2, hfz45_3, hfz45_4⟩ := bf5 BKz1
  go_wp2
  repeat (go_quiet (fail); try go_wp2)
  go_ret
  exact ⟨by first | rfl | (simp <;> rfl) | (simp [*] <;> rfl), sC_ HB⟩
 rw [if_pos c34] at H
 have c34b0 : decide (x6_3 < (l0_3.length : Int)) = true := decide_eq_true c34
 clear c34
 by_cases c35 : 0 ≤ x6_3
 rotate_left
 ·rw [if_neg c35] at H
  exact absurd H (by simp)
 rw [if_pos c35] at H
 have c35b0 : decide (0 ≤ x6_3) = true := decide_eq_true c35
 clear c35
 by_cases c36 : x6_3 < (l1_3.length : Int)
 rotate_left
 ·rw [if_neg c36] at H
  exact absurd H (by simp)
 rw [if_pos c36] at H
 have c36b0 : decide (x6_3 < (l1_3.length : Int)) = true := decide_eq_true c36
 clear c36
 by_cases c37 : (!((((rd_T74 l0_3 x6_3).f0).toList) == (((rd_T74 l1_3 x6_3).f0).toList)) || (!((((rd_T74 l0_3 x6_3).f1).toList) == (((rd_T74 l1_3 x6_3).f1).toList)) || (!((((rd_T74 l0_3 x6_3).f2).toList) == (((rd_T74 l1_3 x6_3).f2).toList))))) = true
 ·rw [if_pos c37] at H
  have c37b0 : (!((((rd_T74 l0_3 x6_3).f0).toList) == (((rd_T74 l1_3 x6_3).f0).toList)) || (!((((rd_T74 l0_3 x6_3).f1).toList) == (((rd_T74 l1_3 x6_3).f1).toList)) || (!((((rd_T74 l0_3 x6_3).f2).toList) == (((rd_T74 l1_3 x6_3).f2).toList))))) = true := c37
  clear c37
  obtain rfl := Option.some.inj H
  have hnb38 := NBz1_z2.out
  have hnc38 := NBz2_z1.out
  obtain ⟨hcz39_0, hcz39_1, hcz39_2, hcz39_3, hcz39_4⟩ := bc5 BKz1
  obtain ⟨hfz39_0, hfz39_1, hfz39_2, hfz39_3, hfz39_4⟩ := bf5 BKz1
  have pz5 : 0 ≤ (x6_3 : Int) := of_decide_eq_true (by first | (with_reducible assumption) | assumption)
  have qz5 : x6_3 < (l0_3.length : Int) := of_decide_eq_true (by first | (with_reducible assumption) | assumption)
  obtain ⟨adz5, ez5, hxz5_0, hxz5_1, hxz5_2⟩ := at_T74 HR0_3.out x6_3 pz5 qz5
  cases ez5
  replace hxz5_0 := (HB.out.cell (World.block_lt_of_cell? w _ hxz5_0)).trans hxz5_0
  replace hxz5_1 := (HB.out.cell (World.block_lt_of_cell? w _ hxz5_1)).trans hxz5_1
  replace hxz5_2 := (HB.out.cell (World.block_lt_of_cell? w _ hxz5_2)).trans hxz5_2
  replace pz5 := eq_true pz5
  replace qz5 := eq_true qz5
  obtain ⟨hcz40_0, hcz40_1, hcz40_2, hcz40_3, hcz40_4⟩ := bc5 BKz2
  obtain ⟨hfz40_0, hfz40_1, hfz40_2, hfz40_3, hfz40_4⟩ := bf5 BKz2
  have pz6 : 0 ≤ (x6_3 : Int) := of_decide_eq_true (by first | (with_reducible assumption) | assumption)
  have qz6 : x6_3 < (l1_3.length : Int) := of_decide_eq_true (by first | (with_reducible assumption) | assumption)
  obtain ⟨adz6, ez6, hxz6_0, hxz6_1, hxz6_2⟩ := at_T74 HR1_3.out x6_3 pz6 qz6
  cases ez6
  replace hxz6_0 := (HB.out.cell (World.block_lt_of_cell? w _ hxz6_0)).trans hxz6_0
  replace hxz6_1 := (HB.out.cell (World.block_lt_of_cell? w _ hxz6_1)).trans hxz6_1
  replace hxz6_2 := (HB.out.cell (World.block_lt_of_cell? w _ hxz6_2)).trans hxz6_2
  replace pz6 := eq_true pz6
  replace qz6 := eq_true qz6
  go_wp2
  repeat (go_quiet (fail); try go_wp2)
  go_ret
  exact ⟨by first | rfl | (simp <;> rfl) | (simp [*] <;> rfl), sC_ HB⟩
 rw [if_neg c37] at H
 have c37b0 : (!((((rd_T74 l0_3 x6_3).f0).toList) == (((rd_T74 l1_3 x6_3).f0).toList)) || (!((((rd_T74 l0_3 x6_3).f1).toList) == (((rd_T74 l1_3 x6_3).f1).toList)) || (!((((rd_T74 l0_3 x6_3).f2).toList) == (((rd_T74 l1_3 x6_3).f2).toList))))) = false := by simpa using c37
 clear c37
 have H' := am H
 clear H
 have hnb41 := NBz1_z2.out
 have hnc41 := NBz2_z1.out
 obtain ⟨hcz42_0, hcz42_1, hcz42_2, hcz42_3, hcz42_4⟩ := bc5 BKz1
 obtain ⟨hfz42_0, hfz42_1, hfz42_2, hfz42_3, hfz42_4⟩ := bf5 BKz1
 have pz5 : 0 ≤ (x6_3 : Int) := of_decide_eq_true (by first | (with_reducible assumption) | assumption)
 have qz5 : x6_3 < (l0_3.length : Int) := of_decide_eq_true (by first | (with_reducible assumption) | assumption)
 obtain ⟨adz5, ez5, hxz5_0, hxz5_1, hxz5_2⟩ := at_T74 HR0_3.out x6_3 pz5 qz5
 cases ez5
 replace hxz5_0 := (HB.out.cell (World.block_lt_of_cell? w _ hxz5_0)).trans hxz5_0
 replace hxz5_1 := (HB.out.cell (World.block_lt_of_cell? w _ hxz5_1)).trans hxz5_1
 replace hxz5_2 := (HB.out.cell (World.block_lt_of_cell? w _ hxz5_2)).trans hxz5_2
 replace pz5 := eq_true pz5
 replace qz5 := eq_true qz5
 obtain ⟨hcz43_0, hcz43_1, hcz43_2, hcz43_3, hcz43_4⟩ := bc5 BKz2
 obtain ⟨hfz43_0, hfz43_1, hfz43_2, hfz43_3, hfz43_4⟩ := bf5 BKz2
 have pz6 : 0 ≤ (x6_3 : Int) := of_decide_eq_true (by first | (with_reducible assumption) | assumption)
 have qz6 : x6_3 < (l1_3.length : Int) := of_decide_eq_true (by first | (with_reducible assumption) | assumption)
 obtain ⟨adz6, ez6, hxz6_0, hxz6_1, hxz6_2⟩ := at_T74 HR1_3.out x6_3 pz6 qz6
 cases ez6
 replace hxz6_0 := (HB.out.cell (World.block_lt_of_cell? w _ hxz6_0)).trans hxz6_0
 replace hxz6_1 := (HB.out.cell (World.block_lt_of_cell? w _ hxz6_1)).trans hxz6_1
 replace hxz6_2 := (HB.out.cell (World.block_lt_of_cell? w _ hxz6_2)).trans hxz6_2
 replace pz6 := eq_true pz6
 replace qz6 := eq_true qz6
 go_wp2
 repeat (go_quiet (fail); try go_wp2)
 go_roundg k3
 case measure => have := HJ2.out; have := HK2.out; have := HK3.out; omega
 case rel => exact ⟨(wrap64 (x6_3 + 1)), (by first | rfl | (simp; done) | (simp [*]; done)), H', ⟨by have := HJ2.out; have := HK2.out; have := HK3.out; omega⟩, (sk_ BKz1), (sk_ BKz2), (sB_ HB)⟩
end Go.Proofs.Ytmkncddbecmlpaa.Pr
end
section
namespace Go.Proofs.Ytmkncddbecmlpaa.Pr
open Go.RowKit Go.Proofs.YtmkncddbecmlpaaW.PrintWords Go.Proofs.YtmkncddbecmlpaaW.PrintLast Go.Proofs.YtmkncddbecmlpaaW.PrintMore
set_option linter.unusedVariables false
def api_Name_69.f (l0 : List S72) : Option (List S72) := if l0.length < 4398046511104 then some l0 else none
set_option maxHeartbeats 8000000 in
set_option maxRecDepth 100000 in
theorem api_Name_69.calls (A0 : Option Addr) (c0 : Nat) (l0 : List S72) (r : List S72) (w : World) (hr0 : Kd.C k72 w A0 l0.length l0) (hc0 : l0.length ≤ c0) (h : api_Name_69.f l0 = some r) :
    Calls Try.prog 69 #[.slice A0 l0.length c0] w fun e w' => ∃ v0_ : Value, e = .returned (v0_) ∧ Kd.R k72 72 w' w.heap.size (fun _ => True) v0_ r ∧ Below w.heap.size w w' := by
  have q24 : ∀ (w : World) (a : Option Addr) (n c : Nat), (binOp .eql 47 (.slice a n c) (.slice none 0 0)).run Try.prog w = .ok (.bool a.isNone) w := fun w a n c => Lib.run_eql_slice_nil w _ _ a n c 0 0 Try.underlying47
  unfold api_Name_69.f at h
  by_cases hl : l0.length < 4398046511104
  · rw [if_pos hl] at h
    obtain rfl := Option.some.inj h
    have HR0 := Aside0.mk hr0
    have LM := Aside0.mk hl
    clear h hl hr0 hc0
    cases A0 with
    | none =>
      have h0 : l0 = [] := by
        cases l0 with
        | nil => rfl
        | cons x xs =>
          obtain ⟨ad, e, _⟩ := HR0.out.2.2 (by simp)
          cases e
      clear HR0
      subst h0
      go_enter Try.func69, Try.ntmps69
      go_wp2
      go_ret
      exact ⟨_, rfl, Kd.R_nil _ _ _ _ _, Below.refl _ _⟩
    | some ad =>
      have HB := Aside0.mk (Below.refl w.heap.size w)
      go_enter Try.func69, Try.ntmps69
      go_wp2_with (first | ((with_reducible refine gate_dst (N := 5) rfl ?_); refine Kd.R_lit k72 _ 72 ?hg (N := 5) ?hd (xs := ([] : List S72)) (inner := []) (ok := fun _ => True) (okp := fun _ => True) ?hr ?hp (fun _ hk => hk) trivial (Below.refl _ _) (Nat.le_refl _) (by simp) ?_; (case hd => rfl); (case hg => rfl); (case hr => first | (go_simp; done) | (go_simp; rfl)); (case hp => exact Reps.none _ _); intro v126 w34 ho35 hb hg_ hnew_; clear hg_ hnew_; have n1_ := Aside0.mk (Kd.C_below HR0.out hb); have n0_ := Aside0.mk hb; have n2_ := Aside0.mk ho35; clear HB HR0; have HB := n0_; have HR0 := n1_; have HO := n2_; clear n0_ n1_ n2_ hb ho35) | ((with_reducible refine gate_builtin (b := .append) (xs := #[.tmp 5, .tmp 6]) rfl ?_); at_builtin; refine Kd.R_append_rows k72 (w0 := w) w.heap.size rfl (.tmp 5) (.tmp 6) 47 72 (.agg #[(.string ⟨#[]⟩), (.string ⟨#[]⟩)]) 32 rfl Try.underlying47 info72 rfl (by decide) (by omega) v126 ([] : List S72) l0 _ _ _ (fun _ => True) (fun _ => False) rfl rfl ?aO ?aR (fun _ _ h => h) (fun _ h => h.elim) ?aF ?aB ?aS ?aL ?_; (case aO => exact HO.out); (case aR => exact HR0.out); (case aF => exact fun _ _ => trivial); (case aB => exact HB.out); (case aS => exact HB.out.size); (case aL => have := LM.out; simp only [List.length_nil]; omega); intro v7 w7 ho7 hb7 hg7 hn7; clear hg7 hn7; rw [List.nil_append] at ho7; have HO2 := Aside0.mk ho7; have HB2 := Aside0.mk hb7; clear ho7 hb7))
      go_ret
      exact ⟨_, rfl, HO2.out, HB2.out⟩
  · rw [if_neg hl] at h
    cases h
def api_Made_70.f (l0 : List S74) : Option (List S74) := if l0.length < 2932031007402 then some l0 else none
set_option maxHeartbeats 8000000 in
set_option maxRecDepth 100000 in
theorem api_Made_70.calls (A0 : Option Addr) (c0 : Nat) (l0 : List S74) (r : List S74) (w : World) (hr0 : Kd.C k74 w A0 l0.length l0) (hc0 : l0.length ≤ c0) (h : api_Made_70.f l0 = some r) :
    Calls Try.prog 70 #[.slice A0 l0.length c0] w fun e w' => ∃ v0_ : Value, e = .returned (v0_) ∧ Kd.R k74 74 w' w.heap.size (fun _ => True) v0_ r ∧ Below w.heap.size w w' := by
  have q24 : ∀ (w : World) (a : Option Addr) (n c : Nat), (binOp .eql 48 (.slice a n c) (.slice none 0 0)).run Try.prog w = .ok (.bool a.isNone) w := fun w a n c => Lib.run_eql_slice_nil w _ _ a n c 0 0 Try.underlying48
  unfold api_Made_70.f at h
  by_cases hl : l0.length < 2932031007402
  · rw [if_pos hl] at h
    obtain rfl := Option.some.inj h
    have HR0 := Aside0.mk hr0
    have LM := Aside0.mk hl
    clear h hl hr0 hc0
    cases A0 with
    | none =>
      have h0 : l0 = [] := by
        cases l0 with
        | nil => rfl
        | cons x xs =>
          obtain ⟨ad, e, _⟩ := HR0.out.2.2 (by simp)
          cases e
      clear HR0
      subst h0
      go_enter Try.func70, Try.ntmps70
      go_wp2
      go_ret
      exact ⟨_, rfl, Kd.R_nil _ _ _ _ _, Below.refl _ _⟩
    | some ad =>
      have HB := Aside0.mk (Below.refl w.heap.size w)
      go_enter Try.func70, Try.ntmps70
      go_wp2_with (first | ((with_reducible refine gate_dst (N := 5) rfl ?_); refine Kd.R_lit k74 _ 74 ?hg (N := 5) ?hd (xs := ([] : List S74)) (inner := []) (ok := fun _ => True) (okp := fun _ => True) ?hr ?hp (fun _ hk => hk) trivial (Below.refl _ _) (Nat.le_refl _) (by simp) ?_; (case hd => rfl); (case hg => rfl); (case hr => first | (go_simp; done) | (go_simp; rfl)); (case hp => exact Reps.none _ _); intro v126 w34 ho35 hb hg_ hnew_; clear hg_ hnew_; have n1_ := Aside0.mk (Kd.C_below HR0.out hb); have n0_ := Aside0.mk hb; have n2_ := Aside0.mk ho35; clear HB HR0; have HB := n0_; have HR0 := n1_; have HO := n2_; clear n0_ n1_ n2_ hb ho35) | ((with_reducible refine gate_builtin (b := .append) (xs := #[.tmp 5, .tmp 6]) rfl ?_); at_builtin; refine Kd.R_append_rows k74 (w0 := w) w.heap.size rfl (.tmp 5) (.tmp 6) 48 74 (.agg #[(.string ⟨#[]⟩), (.string ⟨#[]⟩), (.string ⟨#[]⟩)]) 48 rfl Try.underlying48 info74 rfl (by decide) (by omega) v126 ([] : List S74) l0 _ _ _ (fun _ => True) (fun _ => False) rfl rfl ?aO ?aR (fun _ _ h => h) (fun _ h => h.elim) ?aF ?aB ?aS ?aL ?_; (case aO => exact HO.out); (case aR => exact HR0.out); (case aF => exact fun _ _ => trivial); (case aB => exact HB.out); (case aS => exact HB.out.size); (case aL => have := LM.out; simp only [List.length_nil]; omega); intro v7 w7 ho7 hb7 hg7 hn7; clear hg7 hn7; rw [List.nil_append] at ho7; have HO2 := Aside0.mk ho7; have HB2 := Aside0.mk hb7; clear ho7 hb7))
      go_ret
      exact ⟨_, rfl, HO2.out, HB2.out⟩
  · rw [if_neg hl] at h
    cases h
end Go.Proofs.Ytmkncddbecmlpaa.Pr
end
section
namespace Go.Proofs.Ytmkncddbecmlpaa.Pr
open Go.Proofs.Ytmkncddbecmlpaa.Sq Go.RowKit Go.Proofs.YtmkncddbecmlpaaW.PrintWords Go.Proofs.YtmkncddbecmlpaaW.PrintLast Go.Proofs.YtmkncddbecmlpaaW.PrintMore
attribute [local go_sem] max2_int min2_int max_two min_two max_three min_three max_four min_four
set_option linter.unusedVariables false
set_option linter.unusedSimpArgs false
def ideal_own.f (a0_0 : ByteArray) (a0_1 : Int) (l0_2 : List (S72)) (l0_3 : List (S74)) (a0_4 : Bool) : Option (ByteArray × Int × (List (S72)) × (List (S74)) × Bool) := (api_Name_69.f l0_2).bind fun tz3 => ((api_Made_70.f l0_3).bind fun tz6 => (some (a0_0, a0_1, tz3, tz6, a0_4)))
def ideal_own.T1 : Bool × List (List Nat × List Nat) := (true, [([], []), ([0], [0]), ([1], [1]), ([], []), ([3], [3]), ([4, 2], [4]), ([0, 1, 2, 3, 4], []), ([6, 2, 5, 0, 1, 2, 3, 4], [2, 6]), ([0, 1, 2, 3, 4, 5, 6, 7], []), ([8, 5, 7, 0, 1, 2, 3, 4, 5, 6, 7], [5, 8])])
def ideal_own.B1 : List Nat := [0, 1, 3, 0, 8, 31, 31, 127, 255, 511]
theorem ideal_own.tab1 : rtab .any (opsOf Try.f49 1) = ideal_own.T1 := by kernel_rfl
theorem ideal_own.bits1 : waitsOk ideal_own.T1.2 ideal_own.B1 = true := by kernel_rfl
set_option maxHeartbeats 8000000 in
set_option maxRecDepth 100000 in
theorem ideal_own.calls (a0_0 : ByteArray) (a0_1 : Int) (A0_2 : Option Addr) (c0_2 : Nat) (l0_2 : List (S72)) (A0_3 : Option Addr) (c0_3 : Nat) (l0_3 : List (S74)) (a0_4 : Bool) (r1 : ByteArray) (r2 : Int) (r3 : List (S72)) (r4 : List (S74)) (r5 : Bool) (w : World) (hr0_2 : Kd.C k72 w A0_2 l0_2.length l0_2) (hc0_2 : l0_2.length ≤ c0_2) (hr0_3 : Kd.C k74 w A0_3 l0_3.length l0_3) (hc0_3 : l0_3.length ≤ c0_3) (h : ideal_own.f a0_0 a0_1 l0_2 l0_3 a0_4 = some (r1, r2, r3, r4, r5)) :
  Calls Try.prog 49 #[.agg #[.string a0_0, .int .i64 a0_1, .slice A0_2 l0_2.length c0_2, .slice A0_3 l0_3.length c0_3, .bool a0_4]] w fun e w' => ∃ v2_ v3_ : Value, e = .returned (.agg #[.string r1, .int .i64 r2, v2_, v3_, .bool r5]) ∧ Kd.R k72 72 w' w.heap.size (fun _ => True) v2_ r3 ∧ Kd.R k74 74 w' w.heap.size (fun _ => True) v3_ r4 ∧ Below w.heap.size w w' := by
 have hu50 := Try.underlying50
 have HR0_2 := am hr0_2
 have HC0_2 := am hc0_2
 clear hr0_2 hc0_2
 have HR0_3 := am hr0_3
 have HC0_3 := am hc0_3
 clear hr0_3 hc0_3
 have HB := am (Below.refl w.heap.size w)
 have H : ((api_Name_69.f l0_2).bind fun tz3 => ((api_Made_70.f l0_3).bind fun tz6 => (some (a0_0, a0_1, tz3, tz6, a0_4)))) = some (r1, r2, r3, r4, r5) := h
 clear h
 replace H := ob_ H
 obtain ⟨tz3, A20, H⟩ := H
 replace H : ((api_Made_70.f l0_3).bind fun tz6 => (some (a0_0, a0_1, tz3, tz6, a0_4))) = some (r1, r2, r3, r4, r5) := H
 have A2 := Aside0.mk A20
 clear A20
 replace H := ob_ H
 obtain ⟨tz6, A30, H⟩ := H
 replace H : (some (a0_0, a0_1, tz3, tz6, a0_4)) = some (r1, r2, r3, r4, r5) := H
 have A3 := Aside0.mk A30
 clear A30
 simp only [Option.some.injEq, Prod.mk.injEq] at H
 obtain ⟨rfl, rfl, rfl, rfl, rfl⟩ := H
 go_enter Try.func49, Try.ntmps49
 try go_wp2_with (first | ((with_reducible refine gate_dst (N := 1) rfl ?_); refine box_event ?hg (N := 1) ?hd (cs := #[.string a0_0, .int .i64 a0_1, .slice A0_2 l0_2.length c0_2, .slice A0_3 l0_3.length c0_3, .bool a0_4]) (t := 50) ?hr ?_; (case hd => rfl); (case hg => rfl); (case hr => first | (go_simp; done) | (go_simp; rfl)); intro gbz1 hg w4 hbox hb; have n0_ := am (below_step (pb HB) hb); have n1_ := am (hbox); have n2_ := ge_ hg (pb HB); have n3_ := ge_ hg (pb HB); clear HB; have HB := n0_; have BKz1 := n1_; have GWz1 := n2_; have GEz1 := n3_; clear n0_ n1_ n2_ n3_; clear hb hbox hg) | ((with_reducible refine gate_dst (N := 2) rfl ?_); refine box_event ?hg (N := 2) ?hd (cs := #[.string (⟨#[]⟩ : ByteArray), .int .i64 0, .slice none 0 0, .slice none 0 0, .bool false]) (t := 50) ?hr ?_; (case hd => rfl); (case hg => rfl); (case hr => first | (go_simp; done) | (go_simp; rfl)); intro gbz2 hg w5 hbox hb; have n0_ := am (bkB (pk BKz1) hb); have n1_ := am (below_step (sC_ HB) hb); have n2_ := am (hbox); have n3_ := ge_ hg (sC_ HB); have n4_ := ge_ hg (sC_ HB); have n5_ := nl_ hg BKz1; have n6_ := ng_ hg BKz1; clear BKz1; clear HB; have BKz1 := n0_; have HB := n1_; have BKz2 := n2_; have GWz2 := n3_; have GEz2 := n4_; have NBz1_z2 := n5_; have NBz2_z1 := n6_; clear n0_ n1_ n2_ n3_ n4_ n5_ n6_; clear hb hbox hg))
 have n0_ := am (bkD BKz1.out)
 have n1_ := am (bkD BKz2.out)
 have n2_ := am (below_drew1 HB.out)
 clear BKz1 BKz2 HB; have BKz1 := n0_; have BKz2 := n1_; have HB := n2_; clear n0_ n1_ n2_
 refine start_ (n := 10) (S := fun w' => w'.cell? ⟨gbz1, 0, none⟩ = some (.string a0_0) ∧ w'.cell? ⟨gbz1, 1, none⟩ = some (.int .i64 a0_1) ∧ w'.cell? ⟨gbz1, 2, none⟩ = some (.slice A0_2 l0_2.length c0_2) ∧ w'.cell? ⟨gbz1, 3, none⟩ = some (.slice A0_3 l0_3.length c0_3) ∧ w'.cell? ⟨gbz1, 4, none⟩ = some (.bool a0_4)) (ds := [7, 9]) #[false, false, false, false, false, false, false, false, false, false] (by kernel_rfl) rfl rfl (bc5 BKz1) (fun hHeld => ?_); refine with_tabW ideal_own.tab1 ideal_own.bits1 (fun HT_ HW_ => ?_)
 generalize w5.drew = w6 at BKz1 BKz2 HB hHeld ⊢
 refine pv_ 0 (some 3) HT_ ?_
 refine pv_ 3 (some 6) HT_ ?_
 refine tk_ 1 (some 4) HT_ HW_ rfl rfl (.inl ⟨by rfl, by rintro w' ⟨s0, s1, s2, s3, s4⟩; go_simp; with_reducible rfl⟩) hHeld (by simp only [Act.put, sa_, s0_, s1_, i64_w, i32_w]; rfl) ?_
 refine tk_ 4 (some 7) HT_ HW_ rfl rfl (.inl ⟨by rfl, by rintro w' ⟨s0, s1, s2, s3, s4⟩; go_simp; with_reducible rfl⟩) hHeld (by simp only [Act.put, sa_, s0_, s1_, i64_w, i32_w]; rfl) ?_
 refine on_ 2 (some 5) HT_ rfl rfl (fun K hK => ?_)
 refine goes_ Try.func69 (by kernel_rfl) rfl #[.slice A0_2 l0_2.length c0_2] (by rfl) rfl rfl (by (try simp only [List.map_toArray, List.map_cons, List.map_nil]) <;> rfl) ?_
 with_reducible refine (api_Name_69.calls _ _ l0_2 tz3 _ ?side1 ?side2 A2.out).mono ?_
 (case side1 => repeat (first | exact (Kd.C_below HR0_2.out HB.out) | (with_reducible refine Kd.C_alloc ?_ _) | (with_reducible refine Kd.C_drewN ?_ _) | (with_reducible refine Kd.C_drew ?_)))
 (case side2 => exact HC0_2.out)
 rintro e w7 ⟨vz4, rfl, ho0, hb⟩
 refine ⟨_, rfl, ?_⟩
 have n0_ := am (Kd.R_lower ho0 (below_size (sC_ HB)))
 have n1_ := am (bkB (pk BKz1) hb)
 have n2_ := am (bkB (g := gbz2) (o := .cells #[.string (⟨#[]⟩ : ByteArray), .int .i64 0, .slice none 0 0, .slice none 0 0, .bool false] 50 (0, 0)) (pk BKz2) hb)
 have n3_ := am (below_step (sC_ HB) hb)
 clear BKz1 BKz2 HB; have HOz5 := n0_; have BKz1 := n1_; have BKz2 := n2_; have HB := n3_; clear n0_ n1_ n2_ n3_; refine hK.out _ _ (bc5 BKz1) (fun hHeld => ?_)
 clear hK K
 refine norm_ (by show Act.put _ (some 5) _ = _; simp only [Act.put, sa_, s0_, s1_, i64_w, i32_w]; rfl) ?_
 refine pv_ 6 (some 9) HT_ ?_
 refine on_ 5 (some 8) HT_ rfl rfl (fun K hK => ?_)
 refine goes_ Try.func70 (by kernel_rfl) rfl #[.slice A0_3 l0_3.length c0_3] (by rfl) rfl rfl (by (try simp only [List.map_toArray, List.map_cons, List.map_nil]) <;> rfl) ?_
 with_reducible refine (api_Made_70.calls _ _ l0_3 tz6 _ ?side1 ?side2 A3.out).mono ?_
 (case side1 => repeat (first | exact (Kd.C_below HR0_3.out HB.out) | (with_reducible refine Kd.C_alloc ?_ _) | (with_reducible refine Kd.C_drewN ?_ _) | (with_reducible refine Kd.C_drew ?_)))
 (case side2 => exact HC0_3.out)
 rintro e w8 ⟨vz7, rfl, ho0, hb⟩
 refine ⟨_, rfl, ?_⟩
 have n0_ := am (Kd.R_below (pr HOz5) hb)
 have n1_ := am (Kd.R_lower ho0 (below_size (sC_ HB)))
 have n2_ := am (bkB (pk BKz1) hb)
 have n3_ := am (bkB (g := gbz2) (o := .cells #[.string (⟨#[]⟩ : ByteArray), .int .i64 0, .slice none 0 0, .slice none 0 0, .bool false] 50 (0, 0)) (pk BKz2) hb)
 have n4_ := am (below_step (sC_ HB) hb)
 clear HOz5 BKz1 BKz2 HB; have HOz5 := n0_; have HOz8 := n1_; have BKz1 := n2_; have BKz2 := n3_; have HB := n4_; clear n0_ n1_ n2_ n3_ n4_; obtain ⟨Ao9, co9, eo9⟩ := Kd.R_slice HOz5.out
 (first | subst eo9 | (injection eo9 with f1_ f2_ f3_; have f4_ := f1_.symm; have f5_ := f3_.symm; clear f1_ f2_ f3_; subst f4_; subst f5_))
 obtain ⟨Ao11, co11, eo11⟩ := Kd.R_slice HOz8.out
 (first | subst eo11 | (injection eo11 with f1_ f2_ f3_; have f4_ := f1_.symm; have f5_ := f3_.symm; clear f1_ f2_ f3_; subst f4_; subst f5_))
 refine hK.out _ _ (bc5 BKz1) (fun hHeld => ?_)
 clear hK K
 refine norm_ (by show Act.put _ (some 8) _ = _; simp only [Act.put, sa_, s0_, s1_, i64_w, i32_w]; rfl) ?_
 refine la_ 7 none HT_ rfl rfl (fun K hK => ?_)
 have hs10 : w8.cell? ⟨gbz1, 2, none⟩ = some (.slice A0_2 l0_2.length c0_2) := (blk_cell BKz1.out 2).trans rfl
 have hfs10 := blk_frozen BKz1.out 2
 have := NBz2_z1.out
 have := NBz1_z2.out
 refine skip_ (by rfl) rfl (by go_simp; rfl) ?_
 refine hK.out _ _ ?_
 clear hK K
 refine pv_ 8 (some 10) HT_ ?_
 refine la_ 9 none HT_ rfl rfl (fun K hK => ?_)
 have hs12 : w8.cell? ⟨gbz1, 3, none⟩ = some (.slice A0_3 l0_3.length c0_3) := (blk_cell BKz1.out 3).trans rfl
 have hfs12 := blk_frozen BKz1.out 3
 have := NBz2_z1.out
 have := NBz1_z2.out
 refine skip_ (by rfl) rfl (by go_simp; rfl) ?_
 refine hK.out _ _ ?_
 clear hK K
 refine done_ (done_of HT_.out (by kernel_rfl)) ?_
 have hnb13 := NBz1_z2.out
 have hnc13 := NBz2_z1.out
 obtain ⟨hcz14_0, hcz14_1, hcz14_2, hcz14_3, hcz14_4⟩ := bc5 BKz1
 obtain ⟨hfz14_0, hfz14_1, hfz14_2, hfz14_3, hfz14_4⟩ := bf5 BKz1
 obtain ⟨hcz15_0, hcz15_1, hcz15_2, hcz15_3, hcz15_4⟩ := bc5 BKz2
 obtain ⟨hfz15_0, hfz15_1, hfz15_2, hfz15_3, hfz15_4⟩ := bf5 BKz2
 try go_wp2
 refine bodyPost_ret (results_cell_row rfl _ _ gbz2 50 #[.string a0_0, .int .i64 a0_1, .slice Ao9 tz3.length co9, .slice Ao11 tz6.length co11, .bool a0_4] (0, 0) _ rfl (by (with_reducible repeat (first | refine blk_drewN ?_ _ | refine bkD ?_ | refine bkA ?_ _)); apply bp5; refine blk_far ?_ NBz2_z1.out _; refine blk_far ?_ NBz2_z1.out _; exact pk BKz2) Try.underlying50 rfl (by kernel_rfl)) rfl ?_
 exact ⟨_, _, by first | rfl | (simp <;> rfl) | (simp [*] <;> rfl), by (with_reducible repeat first | apply ra | apply rn | apply rd); exact Kd.R_mono (rf5 (Kd.R_far (p := ⟨gbz1, 3, none⟩) (Kd.R_far (p := ⟨gbz1, 2, none⟩) (Kd.R_types (Kd.R_types HOz5.out BKz1.out (by decide)) BKz2.out (by decide)) (fun _ hk => hk.1.2) (.slice Ao9 tz3.length co9)) (fun _ hk => hk.1.2) (.slice Ao11 tz6.length co11)) (fun _ hk => hk.2)) (fun _ hk => trivial), by (with_reducible repeat first | apply ra | apply rn | apply rd); exact Kd.R_mono (rf5 (Kd.R_far (p := ⟨gbz1, 3, none⟩) (Kd.R_far (p := ⟨gbz1, 2, none⟩) (Kd.R_types (Kd.R_types HOz8.out BKz1.out (by decide)) BKz2.out (by decide)) (fun _ hk => hk.1.2) (.slice Ao9 tz3.length co9)) (fun _ hk => hk.1.2) (.slice Ao11 tz6.length co11)) (fun _ hk => hk.2)) (fun _ hk => trivial), sC_ HB⟩
end Go.Proofs.Ytmkncddbecmlpaa.Pr
end
section
namespace Go.Proofs.Ytmkncddbecmlpaa.Pr
open Go.Proofs.Ytmkncddbecmlpaa.Sq Go.RowKit Go.Proofs.YtmkncddbecmlpaaW.PrintWords Go.Proofs.YtmkncddbecmlpaaW.PrintLast Go.Proofs.YtmkncddbecmlpaaW.PrintMore
attribute [local go_sem] max2_int min2_int max_two min_two max_three min_three max_four min_four
set_option linter.unusedVariables false
set_option linter.unusedSimpArgs false
def tape_Right.f (a0_0 : ByteArray) (a0_1 : Int) : Option (Bool) := if (a0_0.size : Int) ≤ 65536 then (if a0_1 ≥ 0 then (some (decide (a0_1 ≤ (a0_0.size : Int)))) else (some false)) else (some false)
set_option maxHeartbeats 8000000 in
set_option maxRecDepth 100000 in
theorem tape_Right.calls (a0_0 : ByteArray) (a0_1 : Int) (r : Bool) (w : World) (h : tape_Right.f a0_0 a0_1 = some r) :
  Calls Try.prog 16 #[.agg #[.string a0_0, .int .i64 a0_1]] w fun e w' => e = .returned (.bool r) ∧ Below w.heap.size w w' := by
 have hu23 := Try.underlying23
 have HB := am (Below.refl w.heap.size w)
 have H : (if (a0_0.size : Int) ≤ 65536 then (if a0_1 ≥ 0 then (some (decide (a0_1 ≤ (a0_0.size : Int)))) else (some false)) else (some false)) = some r := h
 clear h
 by_cases c2 : (a0_0.size : Int) ≤ 65536
 rotate_left
 ·rw [if_neg c2] at H
  have c2b0 : decide ((a0_0.size : Int) ≤ 65536) = false := decide_eq_false c2
  have c2b1 : decide (a0_0.size ≤ 65536) = false := decide_eq_false (by omega)
  clear c2
  obtain rfl := Option.some.inj H
  go_enter Try.func16, Try.ntmps16
  go_wp2_with (first | ((with_reducible refine gate_dst (N := 1) rfl ?_); (try (refine gate_guard (by rfl) ?_; dsimp only)); refine box_event ?hg (N := 1) ?hd (cs := #[.string a0_0, .int .i64 a0_1]) (t := 23) ?hr ?_; (case hd => rfl); (case hg => rfl); (case hr => first | (go_simp; done) | (go_simp; rfl)); intro gbz1 hg w8 hbox hb; have n0_ := am (below_step (pb HB) hb); have n1_ := am (hbox); have n2_ := ge_ hg (pb HB); have n3_ := ge_ hg (pb HB); clear HB; have HB := n0_; have BKz1 := n1_; have GWz1 := n2_; have GEz1 := n3_; clear n0_ n1_ n2_ n3_; clear hb hbox hg; obtain ⟨hcz9_0, hcz9_1⟩ := bc2 BKz1; obtain ⟨hfz9_0, hfz9_1⟩ := bf2 BKz1))
  go_ret
  exact ⟨by first | rfl | (simp <;> rfl) | (simp [*] <;> rfl), sC_ HB⟩
 rw [if_pos c2] at H
 have c2b0 : decide ((a0_0.size : Int) ≤ 65536) = true := decide_eq_true c2
 have c2b1 : decide (a0_0.size ≤ 65536) = true := decide_eq_true (by omega)
 clear c2
 by_cases c3 : a0_1 ≥ 0
 ·rw [if_pos c3] at H
  have c3b0 : decide (0 ≤ a0_1) = true := decide_eq_true c3
  clear c3
  obtain rfl := Option.some.inj H
  go_enter Try.func16, Try.ntmps16
  go_wp2_with (first | ((with_reducible refine gate_dst (N := 1) rfl ?_); (try (refine gate_guard (by rfl) ?_; dsimp only)); refine box_event ?hg (N := 1) ?hd (cs := #[.string a0_0, .int .i64 a0_1]) (t := 23) ?hr ?_; (case hd => rfl); (case hg => rfl); (case hr => first | (go_simp; done) | (go_simp; rfl)); intro gbz1 hg w4 hbox hb; have n0_ := am (below_step (pb HB) hb); have n1_ := am (hbox); have n2_ := ge_ hg (pb HB); have n3_ := ge_ hg (pb HB); clear HB; have HB := n0_; have BKz1 := n1_; have GWz1 := n2_; have GEz1 := n3_; clear n0_ n1_ n2_ n3_; clear hb hbox hg; obtain ⟨hcz5_0, hcz5_1⟩ := bc2 BKz1; obtain ⟨hfz5_0, hfz5_1⟩ := bf2 BKz1))
  go_ret
  exact ⟨by first | rfl | (simp <;> rfl) | (simp [*] <;> rfl), sC_ HB⟩
 rw [if_neg c3] at H
 have c3b0 : decide (0 ≤ a0_1) = false := decide_eq_false c3
 clear c3
 obtain rfl := Option.some.inj H
 go_enter Try.func16, Try.ntmps16
 go_wp2_with (first | ((with_reducible refine gate_dst (N := 1) rfl ?_); (try (refine gate_guard (by rfl) ?_; dsimp only)); refine box_event ?hg (N := 1) ?hd (cs := #[.string a0_0, .int .i64 a0_1]) (t := 23) ?hr ?_; (case hd => rfl); (case hg => rfl); (case hr => first | (go_simp; done) | (go_simp; rfl)); intro gbz1 hg w6 hbox hb; have n0_ := am (below_step (pb HB) hb); have n1_ := am (hbox); have n2_ := ge_ hg (pb HB); have n3_ := ge_ hg (pb HB); clear HB; have HB := n0_; have BKz1 := n1_; have GWz1 := n2_; have GEz1 := n3_; clear n0_ n1_ n2_ n3_; clear hb hbox hg; obtain ⟨hcz7_0, hcz7_1⟩ := bc2 BKz1; obtain ⟨hfz7_0, hfz7_1⟩ := bf2 BKz1))
 go_ret
 exact ⟨by first | rfl | (simp <;> rfl) | (simp [*] <;> rfl), sC_ HB⟩
end Go.Proofs.Ytmkncddbecmlpaa.Pr
end
section
namespace Go.Proofs.Ytmkncddbecmlpaa.Pr
open Go.Proofs.Ytmkncddbecmlpaa.Sq Go.RowKit Go.Proofs.YtmkncddbecmlpaaW.PrintWords Go.Proofs.YtmkncddbecmlpaaW.PrintLast Go.Proofs.YtmkncddbecmlpaaW.PrintMore
attribute [local go_sem] max2_int min2_int max_two min_two max_three min_three max_four min_four
set_option linter.unusedVariables false
set_option linter.unusedSimpArgs false
def tape_Left.f (a0_0 : ByteArray) (a0_1 : Int) : Option (Int) := (tape_Right.f a0_0 a0_1).bind fun tz2 => (if tz2 = true then (some (wrap64 ((a0_0.size : Int) - a0_1))) else (some 0))
set_option maxHeartbeats 8000000 in
set_option maxRecDepth 100000 in
theorem tape_Left.calls (a0_0 : ByteArray) (a0_1 : Int) (r : Int) (w : World) (h : tape_Left.f a0_0 a0_1 = some r) :
  Calls Try.prog 18 #[.agg #[.string a0_0, .int .i64 a0_1]] w fun e w' => e = .returned (.int .i64 r) ∧ Below w.heap.size w w' := by
 have hu23 := Try.underlying23
 have HB := am (Below.refl w.heap.size w)
 have H : ((tape_Right.f a0_0 a0_1).bind fun tz2 => (if tz2 = true then (some (wrap64 ((a0_0.size : Int) - a0_1))) else (some 0))) = some r := h
 clear h
 replace H := ob_ H
 obtain ⟨tz2, A20, H⟩ := H
 replace H : (if tz2 = true then (some (wrap64 ((a0_0.size : Int) - a0_1))) else (some 0)) = some r := H
 have A2 := Aside0.mk A20
 clear A20
 by_cases c3 : tz2 = true
 rotate_left
 ·replace c3 := Bool.eq_false_iff.mpr c3
  subst c3
  have H1 : (some 0) = some r := by rw [if_neg (show ¬ (false = true) by decide)] at H; exact H
  clear H
  have H := H1
  clear H1
  obtain rfl := Option.some.inj H
  go_enter Try.func18, Try.ntmps18
  go_wp2_with (first | ((with_reducible refine gate_dst (N := 1) rfl ?_); refine box_event ?hg (N := 1) ?hd (cs := #[.string a0_0, .int .i64 a0_1]) (t := 23) ?hr ?_; (case hd => rfl); (case hg => rfl); (case hr => first | (go_simp; done) | (go_simp; rfl)); intro gbz1 hg w8 hbox hb; have n0_ := am (below_step (pb HB) hb); have n1_ := am (hbox); have n2_ := ge_ hg (pb HB); have n3_ := ge_ hg (pb HB); clear HB; have HB := n0_; have BKz1 := n1_; have GWz1 := n2_; have GEz1 := n3_; clear n0_ n1_ n2_ n3_; clear hb hbox hg; obtain ⟨hcz9_0, hcz9_1⟩ := bc2 BKz1; obtain ⟨hfz9_0, hfz9_1⟩ := bf2 BKz1) | ((with_reducible refine gate_callee (f := 16) rfl ?_); refine goesL_ (some 4) rfl rfl Try.func16 (by kernel_rfl) rfl #[.agg #[.string a0_0, .int .i64 a0_1]] rfl (by (try simp only [List.map_toArray, List.map_cons, List.map_nil]) <;> rfl) ?_; (with_reducible refine (tape_Right.calls a0_0 a0_1 false _ A2.out).mono ?_); rintro e w10 ⟨rfl, hb⟩; refine ⟨_, rfl, ?_⟩; have n0_ := am (bkB (pk BKz1) hb); have n1_ := am (below_step (sC_ HB) hb); clear BKz1; clear HB; have BKz1 := n0_; have HB := n1_; clear n0_ n1_; (try clear hi)))
  go_ret
  exact ⟨by first | rfl | (simp <;> rfl) | (simp [*] <;> rfl), sC_ HB⟩
 subst c3
 have H1 : (some (wrap64 ((a0_0.size : Int) - a0_1))) = some r := by rw [if_pos rfl] at H; exact H
 clear H
 have H := H1
 clear H1
 obtain rfl := Option.some.inj H
 go_enter Try.func18, Try.ntmps18
 go_wp2_with (first | ((with_reducible refine gate_dst (N := 1) rfl ?_); refine box_event ?hg (N := 1) ?hd (cs := #[.string a0_0, .int .i64 a0_1]) (t := 23) ?hr ?_; (case hd => rfl); (case hg => rfl); (case hr => first | (go_simp; done) | (go_simp; rfl)); intro gbz1 hg w4 hbox hb; have n0_ := am (below_step (pb HB) hb); have n1_ := am (hbox); have n2_ := ge_ hg (pb HB); have n3_ := ge_ hg (pb HB); clear HB; have HB := n0_; have BKz1 := n1_; have GWz1 := n2_; have GEz1 := n3_; clear n0_ n1_ n2_ n3_; clear hb hbox hg; obtain ⟨hcz5_0, hcz5_1⟩ := bc2 BKz1; obtain ⟨hfz5_0, hfz5_1⟩ := bf2 BKz1) | ((with_reducible refine gate_callee (f := 16) rfl ?_); refine goesL_ (some 4) rfl rfl Try.func16 (by kernel_rfl) rfl #[.agg #[.string a0_0, .int .i64 a0_1]] rfl (by (try simp only [List.map_toArray, List.map_cons, List.map_nil]) <;> rfl) ?_; (with_reducible refine (tape_Right.calls a0_0 a0_1 true _ A2.out).mono ?_); rintro e w6 ⟨rfl, hb⟩; refine ⟨_, rfl, ?_⟩; have n0_ := am (bkB (pk BKz1) hb); have n1_ := am (below_step (sC_ HB) hb); clear BKz1; clear HB; have BKz1 := n0_; have HB := n1_; clear n0_ n1_; obtain ⟨hcz7_0, hcz7_1⟩ := bc2 BKz1; obtain ⟨hfz7_0, hfz7_1⟩ := bf2 BKz1))
 go_ret
 exact ⟨by first | rfl | (simp <;> rfl) | (simp [*] <;> rfl), sC_ HB⟩
end Go.Proofs.Ytmkncddbecmlpaa.Pr
end
section
namespace Go.Proofs.Ytmkncddbecmlpaa.Pr
open Go.Proofs.Ytmkncddbecmlpaa.Sq Go.RowKit Go.Proofs.YtmkncddbecmlpaaW.PrintWords Go.Proofs.YtmkncddbecmlpaaW.PrintLast Go.Proofs.YtmkncddbecmlpaaW.PrintMore
attribute [local go_sem] max2_int min2_int max_two min_two max_three min_three max_four min_four
set_option linter.unusedVariables false
set_option linter.unusedSimpArgs false
def tape_Take.j0 : Nat → Int → Bool → ByteArray → Int → Option (ByteArray × ByteArray × Int × Int)
 | 0, _, _, _, _ => none
 | k + 1, x1, x8, xz2000, xz2001 => if x8 = true then (some ((⟨#[]⟩ : ByteArray), xz2000, xz2001, 1)) else ((tape_Left.f xz2000 xz2001).bind fun tz4 => (if x1 > tz4 then (some ((⟨#[]⟩ : ByteArray), xz2000, xz2001, 12)) else (if 0 ≤ xz2001 then (if xz2001 ≤ (xz2000.size : Int) then (if 0 ≤ x1 then (if x1 ≤ ((xz2000.extract (xz2001 : Int).toNat xz2000.size).size : Int) then (some ((xz2000.extract (xz2001 : Int).toNat xz2000.size).extract 0 (x1 : Int).toNat, xz2000, wrap64 (xz2001 + x1), 0)) else (none)) else (none)) else (none)) else (none))))
def tape_Take.f (k : Nat) (a0_0 : ByteArray) (a0_1 : Int) (a1 : Int) : Option (ByteArray × ByteArray × Int × Int) := (tape_Right.f a0_0 a0_1).bind fun tz3 => (if tz3 = true then (tape_Take.j0 k a1 (decide (a1 < 0)) a0_0 a0_1) else (tape_Take.j0 k a1 (!tz3) a0_0 a0_1))
set_option maxHeartbeats 8000000 in
set_option maxRecDepth 100000 in
theorem tape_Take.calls (k : Nat) (a0_0 : ByteArray) (a0_1 : Int) (a1 : Int) (r1 : ByteArray) (r2 : ByteArray) (r3 : Int) (r4 : Int) (w : World) (h : tape_Take.f k a0_0 a0_1 a1 = some (r1, r2, r3, r4)) :
  Calls Try.prog 21 #[.agg #[.string a0_0, .int .i64 a0_1], .int .i64 a1] w fun e w' => e = .returned (.tuple #[.string r1, .agg #[.string r2, .int .i64 r3], .int .i64 r4]) ∧ Below w.heap.size w w' := by
 have hu23 := Try.underlying23
 have HB := am (Below.refl w.heap.size w)
 have H : ((tape_Right.f a0_0 a0_1).bind fun tz3 => (if tz3 = true then (tape_Take.j0 k a1 (decide (a1 < 0)) a0_0 a0_1) else (tape_Take.j0 k a1 (!tz3) a0_0 a0_1))) = some (r1, r2, r3, r4) := h
 clear h
 replace H := ob_ H
 obtain ⟨tz3, A30, H⟩ := H
 replace H : (if tz3 = true then (tape_Take.j0 k a1 (decide (a1 < 0)) a0_0 a0_1) else (tape_Take.j0 k a1 (!tz3) a0_0 a0_1)) = some (r1, r2, r3, r4) := H
 have A3 := Aside0.mk A30
 clear A30
 have HC4 := am H
 clear H
 go_enter Try.func21, Try.ntmps21
 go_upto_if 8 with (first | ((with_reducible refine gate_dst (N := 2) rfl ?_); refine box_event ?hg (N := 2) ?hd (cs := #[.string a0_0, .int .i64 a0_1]) (t := 23) ?hr ?_; (case hd => rfl); (case hg => rfl); (case hr => first | (go_simp; done) | (go_simp; rfl)); intro gbz1 hg w5 hbox hb; have n0_ := am (below_step (pb HB) hb); have n1_ := am (hbox); have n2_ := ge_ hg (pb HB); have n3_ := ge_ hg (pb HB); clear HB; have HB := n0_; have BKz1 := n1_; have GWz1 := n2_; have GEz1 := n3_; clear n0_ n1_ n2_ n3_; clear hb hbox hg) | ((with_reducible refine gate_dst (N := 5) rfl ?_); refine box_event ?hg (N := 5) ?hd (cs := #[.string (⟨#[]⟩ : ByteArray), .int .i64 0]) (t := 23) ?hr ?_; (case hd => rfl); (case hg => rfl); (case hr => first | (go_simp; done) | (go_simp; rfl)); intro gbz2 hg w6 hbox hb; have n0_ := am (bkB (pk BKz1) hb); have n1_ := am (below_step (sC_ HB) hb); have n2_ := am (hbox); have n3_ := ge_ hg (sC_ HB); have n4_ := ge_ hg (sC_ HB); have n5_ := nl_ hg BKz1; have n6_ := ng_ hg BKz1; clear BKz1; clear HB; have BKz1 := n0_; have HB := n1_; have BKz2 := n2_; have GWz2 := n3_; have GEz2 := n4_; have NBz1_z2 := n5_; have NBz2_z1 := n6_; clear n0_ n1_ n2_ n3_ n4_ n5_ n6_; clear hb hbox hg; have hnb7 := NBz1_z2.out; have hnc7 := NBz2_z1.out; obtain ⟨hcz8_0, hcz8_1⟩ := bc2 BKz1; obtain ⟨hfz8_0, hfz8_1⟩ := bf2 BKz1) | ((with_reducible refine gate_callee (f := 16) rfl ?_); refine goesL_ (some 10) rfl rfl Try.func16 (by kernel_rfl) rfl #[.agg #[.string a0_0, .int .i64 a0_1]] rfl (by (try simp only [List.map_toArray, List.map_cons, List.map_nil]) <;> rfl) ?_; (with_reducible refine (tape_Right.calls a0_0 a0_1 tz3 _ A3.out).mono ?_); rintro e w9 ⟨rfl, hb⟩; refine ⟨_, rfl, ?_⟩; have n0_ := am (bkB (pk BKz1) hb); have n1_ := am (bkB (g := gbz2) (o := .cells #[.string (⟨#[]⟩ : ByteArray), .int .i64 0] 23 (0, 0)) (pk BKz2) hb); have n2_ := am (below_step (sC_ HB) hb); clear BKz1; clear BKz2; clear HB; have BKz1 := n0_; have BKz2 := n1_; have HB := n2_; clear n0_ n1_ n2_; (try clear hi)))
 (try simp only [Act.put, List.setIfInBounds_toArray, List.set_cons_zero, List.set_cons_succ])
 go_cut [8] (fun v8 wc => ∃ (kq : Nat) (x8_3 : Bool), v8 = .bool x8_3 ∧ Aside0 (tape_Take.j0 kq a1 x8_3 a0_0 a0_1 = some (r1, r2, r3, r4)) ∧ Aside0 (kq ≤ k) ∧ Aside0 (wc.heap[gbz1]? = some (.cells #[.string a0_0, .int .i64 a0_1] 23 (0, 0))) ∧ Aside0 (wc.heap[gbz2]? = some (.cells #[.string (⟨#[]⟩ : ByteArray), .int .i64 0] 23 (0, 0))) ∧ Aside0 (Below w.heap.size w wc))
 case first =>
  have H := HC4.out
  clear HC4
  by_cases c10 : tz3 = true
  ·subst c10
   have H1 : (tape_Take.j0 k a1 (decide (a1 < 0)) a0_0 a0_1) = some (r1, r2, r3, r4) := by rw [if_pos rfl] at H; exact H
   clear H
   have H := H1
   clear H1
   have H' := am H
   clear H
   go_wp2
   go_meet
   case rel => exact ⟨_, (decide (a1 < 0)), (by first | rfl | (simp; done) | (simp [*]; done)), H', ⟨by first | omega | exact Nat.le_refl _⟩, (sk_ BKz1), (sk_ BKz2), (sB_ HB)⟩
  replace c10 := Bool.eq_false_iff.mpr c10
  subst c10
  have H1 : (tape_Take.j0 k a1 (!false) a0_0 a0_1) = some (r1, r2, r3, r4) := by rw [if_neg (show ¬ (false = true) by decide)] at H; exact H
  clear H
  have H := H1
  clear H1
  have H' := am H
  clear H
  go_wp2
  go_meet
  case rel => exact ⟨_, (!false), (by first | rfl | (simp; done) | (simp [*]; done)), H', ⟨by first | omega | exact Nat.le_refl _⟩, (sk_ BKz1), (sk_ BKz2), (sB_ HB)⟩
 clear HC4
 try clear c1
 try clear c2
 try clear p2
 try clear c7
 try clear c10
 try clear hcz8_0
 try clear hcz8_1
 try clear hfz8_0
 try clear hfz8_1
 obtain ⟨kq, x8_3, rfl, HA, HJ3, BKz1, BKz2, HB⟩ := hcut
 cases kq with
 | zero => exact absurd HA.out (by simp [tape_Take.j0])
 | succ kj3 => ?_
 have H := HA.out
 clear HA
 simp only [tape_Take.j0] at H
 by_cases c11 : x8_3 = true
 ·subst c11
  have H1 : (some ((⟨#[]⟩ : ByteArray), a0_0, a0_1, 1)) = some (r1, r2, r3, r4) := by rw [if_pos rfl] at H; exact H
  clear H
  have H := H1
  clear H1
  simp only [Option.some.injEq, Prod.mk.injEq] at H
  obtain ⟨rfl, rfl, rfl, rfl⟩ := H
  try go_wp2
  have n0_ := am (bkD BKz1.out)
  have n1_ := am (bkD BKz2.out)
  have n2_ := am (below_drew1 HB.out)
  clear BKz1 BKz2 HB; have BKz1 := n0_; have BKz2 := n1_; have HB := n2_; clear n0_ n1_ n2_
  refine start_ (n := 4) (S := fun w' => w'.cell? ⟨gbz1, 0, none⟩ = some (.string a0_0) ∧ w'.cell? ⟨gbz1, 1, none⟩ = some (.int .i64 a0_1)) (ds := []) #[false, false, false, false] (by kernel_rfl) rfl rfl (bc2 BKz1) (fun hHeld => ?_)
  generalize wc.drew = w12 at BKz1 BKz2 HB hHeld ⊢
  refine pn_ 1 (some 4) rfl rfl (.inl ⟨by rfl, by intro w'; go_simp; with_reducible rfl⟩) (by simp only [Act.put, sa_, s0_, s1_, i64_w, i32_w]; rfl) ?_
  refine tn_ 0 (some 14) rfl rfl (.inl ⟨by rfl, by rintro w' ⟨s0, s1⟩; go_simp; with_reducible rfl⟩) hHeld (by simp only [Act.put, sa_, s0_, s1_, i64_w, i32_w]; rfl) ?_
  refine one_ (i := 2) (N := none) #[true, true, true, false] rfl rfl (by kernel_rfl) (by decide) (fun K hK => ?_)
  have hs13 : w12.cell? ⟨gbz2, 0, none⟩ = some (.string (⟨#[]⟩ : ByteArray)) := (blk_cell BKz2.out 0).trans rfl
  have hfs13 := blk_frozen BKz2.out 0
  have := NBz1_z2.out
  have := NBz2_z1.out
  have hs14 : w12.cell? ⟨gbz2, 1, none⟩ = some (.int .i64 0) := (blk_cell BKz2.out 1).trans rfl
  have hfs14 := blk_frozen BKz2.out 1
  have := NBz1_z2.out
  have := NBz2_z1.out
  refine skip_ (by rfl) rfl (by go_simp; rfl) ?_
  refine hK.out _ _ ⟨((cell_far (p := ⟨gbz2, _, none⟩) NBz1_z2.out _).trans (((cell_far (p := ⟨gbz2, _, none⟩) NBz1_z2.out _).trans (hHeld.1)))), ((cell_far (p := ⟨gbz2, _, none⟩) NBz1_z2.out _).trans (((cell_far (p := ⟨gbz2, _, none⟩) NBz1_z2.out _).trans (hHeld.2))))⟩ (fun hHeld => ?_)
  clear hK K
  refine pn_ 3 (some 6) rfl rfl (.inl ⟨by rfl, by intro w'; go_simp; with_reducible rfl⟩) (by simp only [Act.put, sa_, s0_, s1_, i64_w, i32_w]; rfl) ?_
  refine done_ (by kernel_rfl) ?_
  try go_wp2
  refine bodyPost_ret (results_list (rs := [.tmp 4, .cell 5 23, .tmp 6]) rfl (by simp) (.tmp (.cell gbz2 23 #[.string a0_0, .int .i64 a0_1] (0, 0) _ rfl (by (with_reducible repeat (first | refine blk_drewN ?_ _ | refine bkD ?_ | refine bkA ?_ _)); apply bp2; exact pk BKz2) Try.underlying23 rfl (by kernel_rfl) (.tmp .nil)))) rfl ?_
  exact ⟨by first | rfl | (simp <;> rfl) | (simp [*] <;> rfl), sC_ HB⟩
 replace c11 := Bool.eq_false_iff.mpr c11
 subst c11
 have H1 : ((tape_Left.f a0_0 a0_1).bind fun tz4 => (if a1 > tz4 then (some ((⟨#[]⟩ : ByteArray), a0_0, a0_1, 12)) else (if 0 ≤ a0_1 then (if a0_1 ≤ (a0_0.size : Int) then (if 0 ≤ a1 then (if a1 ≤ ((a0_0.extract (a0_1 : Int).toNat a0_0.size).size : Int) then (some ((a0_0.extract (a0_1 : Int).toNat a0_0.size).extract 0 (a1 : Int).toNat, a0_0, wrap64 (a0_1 + a1), 0)) else (none)) else (none)) else (none)) else (none)))) = some (r1, r2, r3, r4) := by rw [if_neg (show ¬ (false = true) by decide)] at H; exact H
 clear H
 have H := H1
 clear H1
 replace H := ob_ H
 obtain ⟨tz4, A150, H⟩ := H
 replace H : (if a1 > tz4 then (some ((⟨#[]⟩ : ByteArray), a0_0, a0_1, 12)) else (if 0 ≤ a0_1 then (if a0_1 ≤ (a0_0.size : Int) then (if 0 ≤ a1 then (if a1 ≤ ((a0_0.extract (a0_1 : Int).toNat a0_0.size).size : Int) then (some ((a0_0.extract (a0_1 : Int).toNat a0_0.size).extract 0 (a1 : Int).toNat, a0_0, wrap64 (a0_1 + a1), 0)) else (none)) else (none)) else (none)) else (none))) = some (r1, r2, r3, r4) := H
 have A15 := Aside0.mk A150
 clear A150
 by_cases c16 : a1 > tz4
 ·rw [if_pos c16] at H
  have c16b0 : decide (tz4 < a1) = true := decide_eq_true c16
  clear c16
  simp only [Option.some.injEq, Prod.mk.injEq] at H
  obtain ⟨rfl, rfl, rfl, rfl⟩ := H
  have hnb17 := NBz1_z2.out
  have hnc17 := NBz2_z1.out
  obtain ⟨hcz18_0, hcz18_1⟩ := bc2 BKz1
  obtain ⟨hfz18_0, hfz18_1⟩ := bf2 BKz1
  try go_wp2_with (first | ((with_reducible refine gate_callee (f := 18) rfl ?_); refine goesL_ (some 18) rfl rfl Try.func18 (by kernel_rfl) rfl #[.agg #[.string a0_0, .int .i64 a0_1]] rfl (by (try simp only [List.map_toArray, List.map_cons, List.map_nil]) <;> rfl) ?_; (with_reducible refine (tape_Left.calls a0_0 a0_1 tz4 _ A15.out).mono ?_); rintro e w19 ⟨rfl, hb⟩; refine ⟨_, rfl, ?_⟩; have n0_ := am (bkB (pk BKz1) hb); have n1_ := am (bkB (g := gbz2) (o := .cells #[.string (⟨#[]⟩ : ByteArray), .int .i64 0] 23 (0, 0)) (pk BKz2) hb); have n2_ := am (below_step (sC_ HB) hb); clear BKz1; clear BKz2; clear HB; have BKz1 := n0_; have BKz2 := n1_; have HB := n2_; clear n0_ n1_ n2_; (try clear hi)))
  have n0_ := am (bkD BKz1.out)
  have n1_ := am (bkD BKz2.out)
  have n2_ := am (below_drew1 HB.out)
  clear BKz1 BKz2 HB; have BKz1 := n0_; have BKz2 := n1_; have HB := n2_; clear n0_ n1_ n2_
  refine start_ (n := 4) (S := fun w' => w'.cell? ⟨gbz1, 0, none⟩ = some (.string a0_0) ∧ w'.cell? ⟨gbz1, 1, none⟩ = some (.int .i64 a0_1)) (ds := []) #[false, false, false, false] (by kernel_rfl) rfl rfl (bc2 BKz1) (fun hHeld => ?_)
  generalize w19.drew = w20 at BKz1 BKz2 HB hHeld ⊢
  refine pn_ 1 (some 4) rfl rfl (.inl ⟨by rfl, by intro w'; go_simp; with_reducible rfl⟩) (by simp only [Act.put, sa_, s0_, s1_, i64_w, i32_w]; rfl) ?_
  refine tn_ 0 (some 20) rfl rfl (.inl ⟨by rfl, by rintro w' ⟨s0, s1⟩; go_simp; with_reducible rfl⟩) hHeld (by simp only [Act.put, sa_, s0_, s1_, i64_w, i32_w]; rfl) ?_
  refine one_ (i := 2) (N := none) #[true, true, true, false] rfl rfl (by kernel_rfl) (by decide) (fun K hK => ?_)
  have hs21 : w20.cell? ⟨gbz2, 0, none⟩ = some (.string (⟨#[]⟩ : ByteArray)) := (blk_cell BKz2.out 0).trans rfl
  have hfs21 := blk_frozen BKz2.out 0
  have := NBz1_z2.out
  have := NBz2_z1.out
  have hs22 : w20.cell? ⟨gbz2, 1, none⟩ = some (.int .i64 0) := (blk_cell BKz2.out 1).trans rfl
  have hfs22 := blk_frozen BKz2.out 1
  have := NBz1_z2.out
  have := NBz2_z1.out
  refine skip_ (by rfl) rfl (by go_simp; rfl) ?_
  refine hK.out _ _ ⟨((cell_far (p := ⟨gbz2, _, none⟩) NBz1_z2.out _).trans (((cell_far (p := ⟨gbz2, _, none⟩) NBz1_z2.out _).trans (hHeld.1)))), ((cell_far (p := ⟨gbz2, _, none⟩) NBz1_z2.out _).trans (((cell_far (p := ⟨gbz2, _, none⟩) NBz1_z2.out _).trans (hHeld.2))))⟩ (fun hHeld => ?_)
  clear hK K
  refine pn_ 3 (some 6) rfl rfl (.inl ⟨by rfl, by intro w'; go_simp; with_reducible rfl⟩) (by simp only [Act.put, sa_, s0_, s1_, i64_w, i32_w]; rfl) ?_
  refine done_ (by kernel_rfl) ?_
  try go_wp2
  refine bodyPost_ret (results_list (rs := [.tmp 4, .cell 5 23, .tmp 6]) rfl (by simp) (.tmp (.cell gbz2 23 #[.string a0_0, .int .i64 a0_1] (0, 0) _ rfl (by (with_reducible repeat (first | refine blk_drewN ?_ _ | refine bkD ?_ | refine bkA ?_ _)); apply bp2; exact pk BKz2) Try.underlying23 rfl (by kernel_rfl) (.tmp .nil)))) rfl ?_
  exact ⟨by first | rfl | (simp <;> rfl) | (simp [*] <;> rfl), sC_ HB⟩
 rw [if_neg c16] at H
 have c16b0 : decide (tz4 < a1) = false := decide_eq_false c16
 clear c16
 by_cases c23 : 0 ≤ a0_1
 rotate_left
 ·rw [if_neg c23] at H
  exact absurd H (by simp)
 rw [if_pos c23] at H
 have c23b0 := eq_true c23
 have c23b1 : decide (0 ≤ a0_1) = true := decide_eq_true c23
 clear c23
 by_cases c24 : a0_1 ≤ (a0_0.size : Int)
 rotate_left
 ·rw [if_neg c24] at H
  exact absurd H (by simp)
 rw [if_pos c24] at H
 have c24b0 := eq_true c24
 have c24b1 : decide (a0_1 ≤ (a0_0.size : Int)) = true := decide_eq_true c24
 clear c24
 obtain ⟨sx25, hsx25⟩ : ∃ s_ : ByteArray, (a0_0.extract (a0_1 : Int).toNat a0_0.size) = s_ := ⟨_, rfl⟩
 replace H : (if 0 ≤ a1 then (if a1 ≤ ((sx25).size : Int) then (some ((sx25).extract 0 (a1 : Int).toNat, a0_0, wrap64 (a0_1 + a1), 0)) else (none)) else (none)) = some (r1, r2, r3, r4) := by first | (rw [hsx25] at H; exact H) | (simp only [hsx25] at H ⊢; exact H) | exact H
 by_cases c26 : 0 ≤ a1
 rotate_left
 ·rw [if_neg c26] at H
  exact absurd H (by simp)
 rw [if_pos c26] at H
 have c26b0 := eq_true c26
 have c26b1 : decide (0 ≤ a1) = true := decide_eq_true c26
 clear c26
 by_cases c27 : a1 ≤ ((sx25).size : Int)
 rotate_left
 ·rw [if_neg c27] at H
  exact absurd H (by simp)
 rw [if_pos c27] at H
 have c27b0 := eq_true c27
 have c27b1 : decide (a1 ≤ ((sx25).size : Int)) = true := decide_eq_true c27
 clear c27
 obtain ⟨sx28, hsx28⟩ : ∃ s_ : ByteArray, ((sx25).extract 0 (a1 : Int).toNat) = s_ := ⟨_, rfl⟩
 replace H : (some (sx28, a0_0, wrap64 (a0_1 + a1), 0)) = some (r1, r2, r3, r4) := by first | (rw [hsx28] at H; exact H) | (simp only [hsx28] at H ⊢; exact H) | exact H
 simp only [Option.some.injEq, Prod.mk.injEq] at H
 obtain ⟨rfl, rfl, rfl, rfl⟩ := H
 have hnb29 := NBz1_z2.out
 have hnc29 := NBz2_z1.out
 obtain ⟨hcz30_0, hcz30_1⟩ := bc2 BKz1
 obtain ⟨hfz30_0, hfz30_1⟩ := bf2 BKz1
 try go_wp2_with (first | ((with_reducible refine gate_callee (f := 18) rfl ?_); refine goesL_ (some 18) rfl rfl Try.func18 (by kernel_rfl) rfl #[.agg #[.string a0_0, .int .i64 a0_1]] rfl (by (try simp only [List.map_toArray, List.map_cons, List.map_nil]) <;> rfl) ?_; (with_reducible refine (tape_Left.calls a0_0 a0_1 tz4 _ A15.out).mono ?_); rintro e w31 ⟨rfl, hb⟩; refine ⟨_, rfl, ?_⟩; have n0_ := am (bkB (pk BKz1) hb); have n1_ := am (bkB (g := gbz2) (o := .cells #[.string (⟨#[]⟩ : ByteArray), .int .i64 0] 23 (0, 0)) (pk BKz2) hb); have n2_ := am (below_step (sC_ HB) hb); clear BKz1; clear BKz2; clear HB; have BKz1 := n0_; have BKz2 := n1_; have HB := n2_; clear n0_ n1_ n2_; obtain ⟨hcz32_0, hcz32_1⟩ := bc2 BKz1; obtain ⟨hfz32_0, hfz32_1⟩ := bf2 BKz1))
 have n0_ : Aside0 ((w31.setCell ⟨gbz1, 1, none⟩ (.int .i64 (wrap64 (a0_1 + a1)))).heap[gbz1]? = some (.cells #[.string a0_0, .int .i64 (wrap64 (a0_1 + a1))] 23 (0, 0))) := ⟨by (with_reducible repeat (first | refine blk_drewN ?_ _ | refine bkD ?_ | refine bkA ?_ _)); refine blk_put (cs := #[.string a0_0, .int .i64 a0_1]) ?_ 1 _ rfl; (with_reducible repeat (first | refine blk_drewN ?_ _ | refine bkD ?_ | refine bkA ?_ _)); exact BKz1.out⟩
 have n1_ : Aside0 ((w31.setCell ⟨gbz1, 1, none⟩ (.int .i64 (wrap64 (a0_1 + a1)))).heap[gbz2]? = some (.cells #[.string (⟨#[]⟩ : ByteArray), .int .i64 0] 23 (0, 0))) := ⟨by (with_reducible repeat (first | refine blk_drewN ?_ _ | refine bkD ?_ | refine bkA ?_ _)); refine blk_far ?_ NBz2_z1.out _; (with_reducible repeat (first | refine blk_drewN ?_ _ | refine bkD ?_ | refine bkA ?_ _)); exact BKz2.out⟩
 have n2_ : Aside0 (Below w.heap.size w (w31.setCell ⟨gbz1, 1, none⟩ (.int .i64 (wrap64 (a0_1 + a1))))) := (sB_ HB)
 (try clear BKz1); (try clear BKz2); (try clear HB)
 generalize (w31.setCell ⟨gbz1, 1, none⟩ (.int .i64 (wrap64 (a0_1 + a1)))) = w33 at n0_ n1_ n2_ ⊢
 have BKz1 := n0_; have BKz2 := n1_; have HB := n2_; clear n0_ n1_ n2_
 have n0_ := am (bkD BKz1.out)
 have n1_ := am (bkD BKz2.out)
 have n2_ := am (below_drew1 HB.out)
 clear BKz1 BKz2 HB; have BKz1 := n0_; have BKz2 := n1_; have HB := n2_; clear n0_ n1_ n2_
 refine start_ (n := 5) (S := fun w' => w'.cell? ⟨gbz1, 0, none⟩ = some (.string a0_0) ∧ w'.cell? ⟨gbz1, 1, none⟩ = some (.int .i64 (wrap64 (a0_1 + a1)))) (ds := []) #[false, false, false, false, false] (by kernel_rfl) rfl rfl (bc2 BKz1) (fun hHeld => ?_)
 generalize w33.drew = w34 at BKz1 BKz2 HB hHeld ⊢
 refine pn_ 0 (some 33) rfl rfl (.inl ⟨by rfl, by intro w'; go_simp; with_reducible rfl⟩) (by simp only [Act.put, sa_, s0_, s1_, i64_w, i32_w]; rfl) ?_
 refine pn_ 2 (some 4) rfl rfl (.inl ⟨by rfl, by intro w'; go_simp; with_reducible rfl⟩) (by simp only [Act.put, sa_, s0_, s1_, i64_w, i32_w]; rfl) ?_
 refine tn_ 1 (some 34) rfl rfl (.inl ⟨by rfl, by rintro w' ⟨s0, s1⟩; go_simp; with_reducible rfl⟩) hHeld (by simp only [Act.put, sa_, s0_, s1_, i64_w, i32_w]; rfl) ?_
 refine one_ (i := 3) (N := none) #[true, true, true, true, false] rfl rfl (by kernel_rfl) (by decide) (fun K hK => ?_)
 have hs35 : w34.cell? ⟨gbz2, 0, none⟩ = some (.string (⟨#[]⟩ : ByteArray)) := (blk_cell BKz2.out 0).trans rfl
 have hfs35 := blk_frozen BKz2.out 0
 have := NBz1_z2.out
 have := NBz2_z1.out
 have hs36 : w34.cell? ⟨gbz2, 1, none⟩ = some (.int .i64 0) := (blk_cell BKz2.out 1).trans rfl
 have hfs36 := blk_frozen BKz2.out 1
 have := NBz1_z2.out
 have := NBz2_z1.out
 refine skip_ (by rfl) rfl (by go_simp; rfl) ?_
 refine hK.out _ _ ⟨((cell_far (p := ⟨gbz2, _, none⟩) NBz1_z2.out _).trans (((cell_far (p := ⟨gbz2, _, none⟩) NBz1_z2.out _).trans (hHeld.1)))), ((cell_far (p := ⟨gbz2, _, none⟩) NBz1_z2.out _).trans (((cell_far (p := ⟨gbz2, _, none⟩) NBz1_z2.out _).trans (hHeld.2))))⟩ (fun hHeld => ?_)
 clear hK K
 refine pn_ 4 (some 6) rfl rfl (.inl ⟨by rfl, by intro w'; go_simp; with_reducible rfl⟩) (by simp only [Act.put, sa_, s0_, s1_, i64_w, i32_w]; rfl) ?_
 refine done_ (by kernel_rfl) ?_
 try go_wp2
 refine bodyPost_ret (results_list (rs := [.tmp 4, .cell 5 23, .tmp 6]) rfl (by simp) (.tmp (.cell gbz2 23 #[.string a0_0, .int .i64 (wrap64 (a0_1 + a1))] (0, 0) _ rfl (by (with_reducible repeat (first | refine blk_drewN ?_ _ | refine bkD ?_ | refine bkA ?_ _)); apply bp2; exact pk BKz2) Try.underlying23 rfl (by kernel_rfl) (.tmp .nil)))) rfl ?_
 exact ⟨by first | rfl | (simp [errW_none, errW_some] <;> rfl) | (simp only [← hsx25, ← hsx28]; first | rfl | (simp [errW_none, errW_some] <;> rfl)) | (simp [*, errW_none, errW_some] <;> rfl), sC_ HB⟩
end Go.Proofs.Ytmkncddbecmlpaa.Pr
end
section
set_option linter.unusedVariables false
namespace Go.Proofs.Ytmkncddbecmlpaa.XB
open Go.RowKit Go.Shelf Go.Proofs.YtmkncddbecmlpaaW.PrintWords
theorem blk_same {w w1 : World} {g : Nat} {o : Obj} (h : w.heap[g]? = some o) (hb : Below w.heap.size w w1) : w1.heap[g]? = some o := (hb.block g (blk_lt h)).trans h
variable {P : Program}
theorem run_loadVar_one (w : World) (g : Nat) (t ty : TypeId) (v : Value) (fr : Nat × Nat) (d : TypeDesc) (hg : w.heap[g]? = some (.cells #[v] t fr))
    (hu : P.underlying ty = some d) (hd : (match d with | .struct _ | .array _ _ => true | _ => false) = false) :
    (loadVar ty ⟨g, 0, none⟩).run P w = .ok v w := by
  have hc : w.cell? ⟨g, 0, none⟩ = some v := by rw [cell_of_row w g 0 #[v] t fr hg]; rfl
  have ha : (isAgg ty).run P w = .ok false w := by
    simp only [isAgg, Sem.run_bind, run_underlying hu, Result.andThen_ok]
    cases d <;> simp_all
  simp only [loadVar, Sem.run_bind, ha, Result.andThen_ok]
  simp [go_sem, hc]
end Go.Proofs.Ytmkncddbecmlpaa.XB
namespace Go.Proofs.Ytmkncddbecmlpaa.XB
open Go.RowKit Go.Shelf Go.Proofs.YtmkncddbecmlpaaW.PrintWords
variable {F : Fence} {n : Nat} {P : Program}
def IterSeq (F : Fence) (n : Nat) (P : Program) (g : Nat) (lb : Array Value) (vals : Nat → Array Value) (N : Nat) (Start : World → Prop) (Tch Kp : World → World → Prop) : Prop :=
  ∀ (l : Nat) (J Jx : Nat → World → Prop) (W : World), Start W → (∀ k A B, J k A → Tch A B → J k B) → (∀ k A B, Jx k A → Tch A B → Jx k B) →
    (∀ k W1, J k W1 → k < N → YieldAt F (n - 1) P l (vals k) W1 fun e W' =>
      (e = .returned (.bool true) ∧ J (k + 1) W' ∧ Kp W1 W') ∨ (e = .returned (.bool false) ∧ Jx (k + 1) W')) →
    J 0 W →
    CallsIn F n P g (#[.func (.yield l) #[] #[]] ++ lb) W fun e W' => (∃ v, e = .returned v) ∧ (J N W' ∨ (∃ k, k ≤ N ∧ Jx k W'))
def seqPost (B : Nat) (Kp : World → World → Prop) (I : Nat → World → Prop) (Ix : Code → Nat → World → Prop) (k : Nat) (W : World) : Exit → Act → World → Prop
  | .normal, _, W' => KeepsFrom B W W' ∧ Kp W W' ∧ I k W'
  | .ret, _, W' => KeepsFrom B W W' ∧ Ix .ret k W'
  | .exit id, _, W' => KeepsFrom B W W' ∧ Ix (.exit id) k W'
  | .goto t, _, W' => KeepsFrom B W W' ∧ Ix (.goto t) k W'
  | .panic _, _, _ => False
  | .outgrown, _, _ => False
def OwnW (B : Nat) (I : World → Prop) : Prop := ∀ W W' row, I W → W.grownBy W' row → (∀ r, row = some r → B ≤ r ∧ ∃ o : Obj, W.heap[r]? = some o ∧ o.isCells = false) → I W'
theorem OwnW.putObj {B : Nat} {I : World → Prop} (h : OwnW B I) {W : World} {l : Nat} {o : Obj} (o' : Obj) (hs : I W) (hB : B ≤ l) (hl : W.heap[l]? = some o) (ho : o.isCells = false) : I (W.putObj l o') :=
  h W _ (some l) hs (grownBy_putObj' W l o') (fun r e => by cases e; exact ⟨hB, _, hl, ho⟩)
theorem OwnW.alloc {B : Nat} {I : World → Prop} (h : OwnW B I) {W : World} (o : Obj) (hs : I W) : I (W.alloc o) :=
  h W _ none hs (World.grownBy_alloc W o none) (fun r e => by cases e)
theorem OwnW.and {B : Nat} {I J : World → Prop} (h : OwnW B I) (h' : OwnW B J) : OwnW B (fun W => I W ∧ J W) := fun W W' row hs hg hr => ⟨h W W' row hs.1 hg hr, h' W W' row hs.2 hg hr⟩
theorem OwnW.pure {B : Nat} (p : Prop) : OwnW B (fun _ => p) := fun _ _ _ h _ _ => h
theorem OwnW.blk {B : Nat} (g : Nat) (cs : Array Value) (t : TypeId) (fr : Nat × Nat) : OwnW B (fun W => W.heap[g]? = some (.cells cs t fr)) := fun W W' row h hg hr => blk_grown h hg (fun e => by
  obtain ⟨_, o, ho, hc⟩ := hr g e.symm
  rw [h] at ho
  cases ho
  cases hc)
theorem OwnW.below {n₀ B : Nat} {w₀ : World} (hn : n₀ ≤ w₀.heap.size) (hB : n₀ ≤ B) : OwnW B (fun W => Below n₀ w₀ W) :=
  fun W W' row h hg hr => h.grown hg (Nat.le_trans hn h.size) (fun k e => Nat.le_trans hB (hr k e).1)
theorem OwnW.row {α : Type} {B : Nat} (d : Kd α) (e base : Nat) (ok : Nat → Prop) (v : Value) (xs : List α) : OwnW B (fun W => d.R e W base ok v xs) := fun W W' row h hg hr => by
  refine Kd.R_mono (Kd.R_grown (Kd.R_bound h) hg (fun k hk => ?_)) (fun _ hk => hk.1)
  rintro rfl
  obtain ⟨_, o, ho, hc⟩ := hr k rfl
  obtain ⟨_, _, _, q, _, cells, hcc⟩ := hk
  rw [hcc] at ho
  cases ho
  cases hc
theorem wpIn_rangeFunc_seq {g : Operand} {ps : Array Tmp} {assign body : Code} {Q : Exit → Act → World → Prop} {a : Act} {w : World}
    (hro : F.round = none) (h1 : 1 ≤ n) {gf : Nat} {lb : Array Value} (hg : a.eval g = .func (.func gf) #[] lb) (hFg : F.fn gf) (eg : ∀ args w, (callFunc gf args).run P w = .ok (.enter gf args) w)
    {vals : Nat → Array Value} {N : Nat} {Start : World → Prop} {Tch Kp : World → World → Prop} (hseq : IterSeq F (n - 1) P gf lb vals N Start Tch Kp)
    (hStart : OwnW w.heap.size Start) (hs0 : Start w) (hT : ∀ A B, Tch A B → KeepsFrom w.heap.size A B)
    (hKt : ∀ {A B C : World}, Kp A B → Kp B C → Kp A C) (hKb : ∀ (W : World) (l : Nat) (o o' : Obj), w.heap.size ≤ l → W.heap[l]? = some o → o.isCells = false → Kp W (W.putObj l o')) (hps : ∀ k, (vals k).size = ps.size)
    (I : Nat → World → Prop) (Ix : Code → Nat → World → Prop) (hI : ∀ k, OwnW w.heap.size (I k)) (hIx : ∀ c k, OwnW w.heap.size (Ix c k))
    (hIT : ∀ k A B, I k A → Tch A B → I k B) (hIxT : ∀ c k A B, Ix c k A → Tch A B → Ix c k B) (h0 : I 0 w) (a₁ : Nat → Act)
    (hassign : ∀ (l k : Nat) (W : World) (K : Act → World → Prop), K (a₁ k) W →
      assign.wpIn (F.inRound l) (n - 1 - 1) P (Exit.then K (fun _ _ _ => False)) { tmps := (ps.zip (vals k)).foldl (fun t (p, v) => t.setIfInBounds p v) a.tmps, defers := [] } W)
    (hbody : ∀ (l k : Nat) (W : World), I k W → k < N → body.wpIn (F.inRound l) (n - 1 - 1) P (seqPost w.heap.size Kp I Ix (k + 1) W) (a₁ k) W)
    (hdone : ∀ (D : Nat) (W : World), w.heap.size ≤ D → I N W → W.heap[D]? = some (.deferred (some [])) → Q .normal { a with defers := { target := .collected D, args := #[] } :: a.defers } W)
    (hstop : ∀ (D : Nat) (c : Code) (k : Nat) (W : World), w.heap.size ≤ D → k ≤ N → Ix c k W → W.heap[D]? = some (.deferred (some [])) → c.wpIn F n P Q { a with defers := { target := .collected D, args := #[] } :: a.defers } W) :
    (Code.rangeFunc g ps assign body).wpIn F n P Q a w := by
  refine wpIn_rangeFunc ?_
  intro fn hfn
  rw [hro]
  obtain ⟨rec, hrec⟩ : ∃ rec : LoopState → Option Code → Loop, rec = fun st pe => { state := st, pending := pe, fn, tmps := a.tmps, params := ps, assign, body, defers := w.heap.size } := ⟨_, rfl⟩
  obtain ⟨W1, hW1⟩ : ∃ W1, (w.alloc (.deferred (some []))).alloc (.loop (rec .ready none)) = W1 := ⟨_, rfl⟩
  have hL1 : W1.heap[w.heap.size + 1]? = some (.loop (rec .ready none)) := by
    rw [← hW1]; have := World.alloc_heap_new (w.alloc (.deferred (some []))) (.loop (rec .ready none)); rwa [World.size_alloc] at this
  have hK1 : W1.heap[w.heap.size]? = some (.deferred (some [])) := by
    rw [← hW1]; exact (Below.heap_alloc _ _ _ (by simp)).trans (World.alloc_heap_new w _)
  have hI1 : I 0 W1 := by rw [← hW1]; exact (hI 0).alloc _ ((hI 0).alloc _ h0)
  have hS1 : Start W1 := by rw [← hW1]; exact hStart.alloc _ (hStart.alloc _ hs0)
  refine ⟨w.heap.size + 1, [{ target := .collected w.heap.size, args := #[] }], W1, { target := .fn (.func gf) lb, args := #[.func (.yield (w.heap.size + 1)) #[] #[]] }, W1, gf,
    #[.func (.yield (w.heap.size + 1)) #[] #[]] ++ lb, W1, ?_, ?_, ?_, ?_, fun _ => h1, ?_⟩
  · rw [← hW1, hrec]; exact run_enterLoop_outer _ _ _ _ _
  · simp only [resolve, hg]
    simp [go_sem]
  · intro f' hf'; simp [Target.leads] at hf'; subst hf'; exact hFg
  · simp [invoke, go_sem, eg]
  · refine (hseq (w.heap.size + 1)
      (fun k W => I k W ∧ W.heap[w.heap.size + 1]? = some (.loop (rec .ready none)) ∧ W.heap[w.heap.size]? = some (.deferred (some [])))
      (fun k W => ∃ c, Ix c k W ∧ W.heap[w.heap.size + 1]? = some (.loop (rec .done (some c))) ∧ W.heap[w.heap.size]? = some (.deferred (some [])))
      W1 hS1
      (fun k A B hs ht => ⟨hIT k A B hs.1 ht, (hT A B ht).same _ _ (by omega) hs.2.1 rfl, (hT A B ht).same _ _ (Nat.le_refl _) hs.2.2 rfl⟩)
      (fun k A B hs ht => by
        obtain ⟨c, hc, hl, hk⟩ := hs
        exact ⟨c, hIxT c k A B hc ht, (hT A B ht).same _ _ (by omega) hl rfl, (hT A B ht).same _ _ (Nat.le_refl _) hk rfl⟩)
      ?_ ⟨hI1, hL1, hK1⟩).mono ?_
    · rintro k W ⟨hi, hl, hk⟩ hlen
      have hlt : w.heap.size + 1 < W.heap.size := (Array.getElem?_eq_some_iff.1 hl).1
      have hy := run_yield (P := P) (args := vals k) hl (by rw [hrec]; exact hps k)
      rw [hrec] at hy
      refine ⟨fn, _, assign, body, hy, roundIn_of_wpIn hfn (hassign _ k W _ ⟨_, run_beginRound hl (by rw [hrec]), ?_⟩)⟩
      have hl2 : (W.putObj (w.heap.size + 1) (.loop { rec .ready none with state := .busy })).heap[w.heap.size + 1]? = some (.loop { rec .ready none with state := .busy }) := World.putObj_heap_same hlt
      have hk2 : (W.putObj (w.heap.size + 1) (.loop { rec .ready none with state := .busy })).heap[w.heap.size]? = some (.deferred (some [])) := (World.putObj_heap_other (by omega)).trans hk
      have hw2 : Kp W (W.putObj (w.heap.size + 1) (.loop { rec .ready none with state := .busy })) := hKb _ _ _ _ (by omega) hl rfl
      refine wpIn_mono (hbody _ k _ ((hI k).putObj _ hi (by omega) hl rfl) hlen) ?_
      have fin : ∀ (jump : Option Code) (W3 : World), KeepsFrom w.heap.size (W.putObj (w.heap.size + 1) (.loop { rec .ready none with state := .busy })) W3 →
          (Instr.endRound (w.heap.size + 1) jump).run P W3 = .ok (.bool jump.isNone) (W3.putObj (w.heap.size + 1) (.loop (rec (if jump.isNone then .ready else .done) jump))) ∧
          W3.heap[w.heap.size + 1]? = some (.loop { rec .ready none with state := .busy }) ∧
          (W3.putObj (w.heap.size + 1) (.loop (rec (if jump.isNone then .ready else .done) jump))).heap[w.heap.size + 1]? = some (.loop (rec (if jump.isNone then .ready else .done) jump)) ∧
          (W3.putObj (w.heap.size + 1) (.loop (rec (if jump.isNone then .ready else .done) jump))).heap[w.heap.size]? = some (.deferred (some [])) := fun jump W3 hk3 => by
        have hl3 := hk3.same _ _ (by omega) hl2 rfl
        have := run_endRound (P := P) jump hl3
        rw [hrec] at this ⊢
        exact ⟨this, by rw [hrec] at hl3; exact hl3, World.putObj_heap_same (Array.getElem?_eq_some_iff.1 hl3).1, (World.putObj_heap_other (by omega)).trans (hk3.same _ _ (Nat.le_refl _) hk2 rfl)⟩
      rintro e a3 W3 hp
      cases e with
      | normal =>
        obtain ⟨hk3, hkp3, hi3⟩ := hp
        obtain ⟨hr, hl3, hl4, hk4⟩ := fin none W3 hk3
        exact ⟨_, _, hr, .inl ⟨rfl, ⟨(hI _).putObj _ hi3 (by omega) hl3 rfl, hl4, hk4⟩, hKt (hKt hw2 hkp3) (hKb _ _ _ _ (by omega) hl3 rfl)⟩⟩
      | ret =>
        obtain ⟨hk3, hi3⟩ := hp
        obtain ⟨hr, hl3, hl4, hk4⟩ := fin (some .ret) W3 hk3
        exact ⟨_, _, hr, .inr ⟨rfl, .ret, (hIx _ _).putObj _ hi3 (by omega) hl3 rfl, hl4, hk4⟩⟩
      | exit id =>
        obtain ⟨hk3, hi3⟩ := hp
        obtain ⟨hr, hl3, hl4, hk4⟩ := fin (some (.exit id)) W3 hk3
        exact ⟨_, _, hr, .inr ⟨rfl, .exit id, (hIx _ _).putObj _ hi3 (by omega) hl3 rfl, hl4, hk4⟩⟩
      | goto t =>
        obtain ⟨hk3, hi3⟩ := hp
        obtain ⟨hr, hl3, hl4, hk4⟩ := fin (some (.goto t)) W3 hk3
        exact ⟨_, _, hr, .inr ⟨rfl, .goto t, (hIx _ _).putObj _ hi3 (by omega) hl3 rfl, hl4, hk4⟩⟩
      | panic ch => exact hp.elim
      | outgrown => exact hp.elim
    · rintro e W2 ⟨⟨v, rfl⟩, (⟨hi, hl, hk⟩ | ⟨k, hkN, c, hi, hl, hk⟩)⟩
      · exact ⟨none, _, by have := run_endLoop (P := P) hl (by rw [hrec]; simp); rw [hrec] at this; exact this, hdone _ _ (Nat.le_refl _) ((hI _).putObj _ hi (by omega) hl rfl) ((World.putObj_heap_other (by omega)).trans hk)⟩
      · exact ⟨some c, _, by have := run_endLoop (P := P) hl (by rw [hrec]; simp); rw [hrec] at this; exact this, hstop _ c k _ (Nat.le_refl _) hkN ((hIx c k).putObj _ hi (by omega) hl rfl) ((World.putObj_heap_other (by omega)).trans hk)⟩
end Go.Proofs.Ytmkncddbecmlpaa.XB
namespace Go.Proofs.Ytmkncddbecmlpaa.XB
open Go.RowKit Go.Shelf Go.Proofs.YtmkncddbecmlpaaW.PrintWords
inductive ValsX (P : Program) (tmps : Array Value) (w : World) : List ResultVar → List Value → Prop where
  | nil : ValsX P tmps w [] []
  | tmp {u : Tmp} {rs : List ResultVar} {vs : List Value} (h : ValsX P tmps w rs vs) : ValsX P tmps w (.tmp u :: rs) (tmps.getD u undef :: vs)
  | cell {p : Tmp} {ty : TypeId} {rs : List ResultVar} {vs : List Value} (g : Nat) (t : TypeId) (cs : Array Value) (fr : Nat × Nat) (d : TypeDesc)
      (hp : tmps.getD p undef = .pointer (some ⟨g, 0, none⟩)) (hg : w.heap[g]? = some (.cells cs t fr))
      (hu : P.underlying ty = some d) (hd : (match d with | .struct _ | .array _ _ => true | _ => false) = true) (hi : (P.info? ty).map (·.size) = some cs.size)
      (h : ValsX P tmps w rs vs) : ValsX P tmps w (.cell p ty :: rs) (.agg cs :: vs)
  | one {p : Tmp} {ty : TypeId} {rs : List ResultVar} {vs : List Value} (g : Nat) (t : TypeId) (v : Value) (fr : Nat × Nat) (d : TypeDesc)
      (hp : tmps.getD p undef = .pointer (some ⟨g, 0, none⟩)) (hg : w.heap[g]? = some (.cells #[v] t fr))
      (hu : P.underlying ty = some d) (hd : (match d with | .struct _ | .array _ _ => true | _ => false) = false)
      (h : ValsX P tmps w rs vs) : ValsX P tmps w (.cell p ty :: rs) (v :: vs)
section
variable {P : Program} {tmps : Array Value} {w : World}
theorem valsX_run {rs : List ResultVar} {vs : List Value} (hv : ValsX P tmps w rs vs) (f : ResultVar → Sem Value) (hf : ∀ u, f (.tmp u) = pure (tmps.getD u undef)) (hc : ∀ a t, f (.cell a t) = (do loadVar t (← asAddr (tmps.getD a undef)))) :
    (rs.mapM f).run P w = .ok vs w := by
  induction hv with
  | nil => simp
  | tmp h ih => simp [List.mapM_cons, hf, ih]
  | cell g t cs fr d hp hg hu hd hi h ih =>
    rw [List.mapM_cons, hc, hp]
    simp [asAddr, run_loadVar_row w g t _ cs fr d hg hu hd hi, ih]
  | one g t v fr d hp hg hu hd h ih =>
    rw [List.mapM_cons, hc, hp]
    simp [asAddr, run_loadVar_one w g t _ v fr d hg hu hd, ih]
theorem resultsX_list {fn : Func} {rs : List ResultVar} {vs : List Value} (h : fn.results = rs.toArray) (hl : vs.length ≠ 1) (hv : ValsX P tmps w rs vs) : (results fn tmps).run P w = .ok (.tuple vs.toArray) w := by
  unfold results
  rw [h, List.mapM_toArray]
  simp only [Sem.run_bind, Sem.run_map]
  rw [valsX_run hv]
  · simp [hl]
  · intro u
    rfl
  · intro a t
    rfl
theorem resultsX_single {fn : Func} {r : ResultVar} {v : Value} (h : fn.results = #[r]) (hv : ValsX P tmps w [r] [v]) : (results fn tmps).run P w = .ok v w := by
  unfold results
  rw [show fn.results = [r].toArray from h, List.mapM_toArray]
  simp only [Sem.run_bind, Sem.run_map]
  rw [valsX_run hv]
  · simp
  · intro u
    rfl
  · intro a t
    rfl
end
end Go.Proofs.Ytmkncddbecmlpaa.XB
namespace Go.Proofs.Ytmkncddbecmlpaa.XB
open Go.RowKit Go.Shelf Go.Proofs.YtmkncddbecmlpaaW.PrintWords
def QM (n : Nat) (P : Program) (fn : Func) (R : Ending → World → Prop) : Exit → Act → World → Prop
  | .normal, a, w | .ret, a, w => LeavesInM Fence.wide n P fn a.tmps R a.defers .returning w
  | _, _, _ => False
theorem QM_wp {n : Nat} {P : Program} {fn : Func} {R : Ending → World → Prop} {c : Code} {a : Act} {w : World} (h : c.wp P (QM n P fn R) a w) : c.wpIn Fence.wide n P (bodyPostM Fence.wide n P fn R) a w := by
  refine wpIn_mono (wpIn_wide.2 h) ?_
  intro e a w h
  cases e <;> first | exact h | exact h.elim
theorem QM_ret {n : Nat} {P : Program} {fn : Func} {R : Ending → World → Prop} {e : Exit} {tmps : Array Value} {w : World} {D : Nat} {v : Value} (he : e = .ret ∨ e = .normal)
    (hD : w.heap[D]? = some (.deferred (some []))) (hv : (results fn tmps).run P (w.putObj D (.deferred none)) = .ok v (w.putObj D (.deferred none))) (hR : R (.returned v) (w.putObj D (.deferred none))) :
    QM n P fn R e { tmps := tmps, defers := [{ target := .collected D, args := #[] }] } w := by
  have h : LeavesInM Fence.wide n P fn tmps R [{ target := .collected D, args := #[] }] .returning w :=
    ⟨by simp, .inl ⟨_, _, rfl, run_takeDeferred hD, _, hv, hR⟩⟩
  rcases he with rfl | rfl <;> exact h
end Go.Proofs.Ytmkncddbecmlpaa.XB
namespace Go.Proofs.Ytmkncddbecmlpaa.XB
open Go.RowKit Go.Shelf Go.Proofs.YtmkncddbecmlpaaW.PrintWords
attribute [local go_sem] Oper.semAt_some
variable {F : Fence} {n : Nat} {P : Program}
theorem assign_one (l rid d p ty : Nat) (pos : String) (v : Value) (tmps : Array Value) (W : World) (K : Act → World → Prop) (hp : p < tmps.size)
    (hK : K { tmps := (tmps.setIfInBounds p v).setIfInBounds d v, defers := [] } W) :
    (Code.region rid #[{ dst := some d, op := Op.assign (Operand.tmp p), type := ty, pos := pos, after := #[], guard := none }] false).wpIn (F.inRound l) n P (Exit.then K (fun _ _ _ => False)) { tmps := (#[p].zip #[v]).foldl (fun t (p, v) => t.setIfInBounds p v) tmps, defers := [] } W := by
  have hv : ((tmps.setIfInBounds p v)[p]?).getD undef = v := by simp [hp]
  have hv2 : (tmps.setIfInBounds p v).getD p undef = v := by simpa using hv
  gi_wp2
  exact hK
theorem wp_range1 {g : Operand} {p d rid ty : Nat} {pos : String} {body : Code} {Q : Exit → Act → World → Prop} {tmps : Array Value} {w : World}
    (hn : 1 ≤ n) {gf : Nat} {lb : Array Value} (hg : ({ tmps := tmps, defers := [] } : Act).eval g = .func (.func gf) #[] lb) (eg : ∀ args w, (callFunc gf args).run P w = .ok (.enter gf args) w)
    (v : Nat → Value) (N : Nat) {Start : World → Prop} {Tch Kp : World → World → Prop} (hseq : IterSeq Fence.wide (n - 1) P gf lb (fun k => #[v k]) N Start Tch Kp)
    (hStart : OwnW w.heap.size Start) (hs0 : Start w) (hT : ∀ A B, Tch A B → KeepsFrom w.heap.size A B)
    (hKt : ∀ {A B C : World}, Kp A B → Kp B C → Kp A C) (hKb : ∀ (W : World) (l : Nat) (o o' : Obj), w.heap.size ≤ l → W.heap[l]? = some o → o.isCells = false → Kp W (W.putObj l o')) (hp : p < tmps.size)
    (I : Nat → World → Prop) (Ix : Code → Nat → World → Prop) (hI : ∀ k, OwnW w.heap.size (I k)) (hIx : ∀ c k, OwnW w.heap.size (Ix c k))
    (hIT : ∀ k A B, I k A → Tch A B → I k B) (hIxT : ∀ c k A B, Ix c k A → Tch A B → Ix c k B) (h0 : I 0 w)
    (hbody : ∀ (l k : Nat) (W : World), I k W → k < N → body.wpIn (Fence.wide.inRound l) (n - 1 - 1) P (seqPost w.heap.size Kp I Ix (k + 1) W) { tmps := (tmps.setIfInBounds p (v k)).setIfInBounds d (v k), defers := [] } W)
    (hdone : ∀ (D : Nat) (W : World), w.heap.size ≤ D → I N W → W.heap[D]? = some (.deferred (some [])) → Q .normal { tmps := tmps, defers := [{ target := .collected D, args := #[] }] } W)
    (hstop : ∀ (D : Nat) (c : Code) (k : Nat) (W : World), w.heap.size ≤ D → k ≤ N → Ix c k W → W.heap[D]? = some (.deferred (some [])) → c.wp P Q { tmps := tmps, defers := [{ target := .collected D, args := #[] }] } W) :
    (Code.rangeFunc g #[p] (Code.region rid #[{ dst := some d, op := Op.assign (Operand.tmp p), type := ty, pos := pos, after := #[], guard := none }] false) body).wp P Q { tmps := tmps, defers := [] } w :=
  wpIn_wide.1 (wpIn_rangeFunc_seq (n := n) rfl hn hg trivial eg hseq hStart hs0 hT hKt hKb (fun _ => rfl) I Ix hI hIx hIT hIxT h0
    (fun k => { tmps := (tmps.setIfInBounds p (v k)).setIfInBounds d (v k), defers := [] })
    (fun l k W K hK => assign_one l rid d p ty pos (v k) tmps W K hp hK) hbody hdone (fun D c k W h1 h2 h3 h4 => wpIn_wide.2 (hstop D c k W h1 h2 h3 h4)))
end Go.Proofs.Ytmkncddbecmlpaa.XB
namespace Go.Proofs.Ytmkncddbecmlpaa.XB
open Go.RowKit Go.Shelf Go.Proofs.YtmkncddbecmlpaaW.PrintWords
end Go.Proofs.Ytmkncddbecmlpaa.XB
namespace Go.Proofs.Ytmkncddbecmlpaa.XB
open Go.RowKit Go.Shelf Go.Proofs.YtmkncddbecmlpaaW.PrintWords
theorem keeps_below {B : Nat} {W W1 : World} (h : Below W.heap.size W W1) : KeepsFrom B W W1 := ⟨h.size, fun _ _ _ hk _ => blk_same hk h⟩
theorem keeps_alloc {B : Nat} {W W1 : World} (h : KeepsFrom B W W1) (o : Obj) : KeepsFrom B W (W1.alloc o) := h.trans ((KeepsOthers.alloc _ _).from _)
theorem keeps_set {B : Nat} {W W1 : World} (h : KeepsFrom B W W1) (p : Addr) (u : Value) : KeepsFrom B W (W1.setCell p u) := h.trans ((KeepsOthers.setCell _ _ _).from _)
end Go.Proofs.Ytmkncddbecmlpaa.XB
namespace Go.Proofs.Ytmkncddbecmlpaa.XB
open Go.RowKit Go.Shelf Go.Proofs.YtmkncddbecmlpaaW.PrintWords
section
variable {w : World} {g : Nat} {t : TypeId} {a b c d : Value}
theorem put10 (h : w.heap[g]? = some (.cells #[a] t (0, 0))) (v : Value) : (w.setCell ⟨g, 0, none⟩ v).heap[g]? = some (.cells #[v] t (0, 0)) := blk_set h 0 v
theorem put20 (h : w.heap[g]? = some (.cells #[a, b] t (0, 0))) (v : Value) : (w.setCell ⟨g, 0, none⟩ v).heap[g]? = some (.cells #[v, b] t (0, 0)) := blk_set h 0 v
theorem put21 (h : w.heap[g]? = some (.cells #[a, b] t (0, 0))) (v : Value) : (w.setCell ⟨g, 1, none⟩ v).heap[g]? = some (.cells #[a, v] t (0, 0)) := blk_set h 1 v
theorem put30 (h : w.heap[g]? = some (.cells #[a, b, c] t (0, 0))) (v : Value) : (w.setCell ⟨g, 0, none⟩ v).heap[g]? = some (.cells #[v, b, c] t (0, 0)) := blk_set h 0 v
theorem put31 (h : w.heap[g]? = some (.cells #[a, b, c] t (0, 0))) (v : Value) : (w.setCell ⟨g, 1, none⟩ v).heap[g]? = some (.cells #[a, v, c] t (0, 0)) := blk_set h 1 v
theorem put32 (h : w.heap[g]? = some (.cells #[a, b, c] t (0, 0))) (v : Value) : (w.setCell ⟨g, 2, none⟩ v).heap[g]? = some (.cells #[a, b, v] t (0, 0)) := blk_set h 2 v
theorem put40 (h : w.heap[g]? = some (.cells #[a, b, c, d] t (0, 0))) (v : Value) : (w.setCell ⟨g, 0, none⟩ v).heap[g]? = some (.cells #[v, b, c, d] t (0, 0)) := blk_set h 0 v
theorem put41 (h : w.heap[g]? = some (.cells #[a, b, c, d] t (0, 0))) (v : Value) : (w.setCell ⟨g, 1, none⟩ v).heap[g]? = some (.cells #[a, v, c, d] t (0, 0)) := blk_set h 1 v
theorem put42 (h : w.heap[g]? = some (.cells #[a, b, c, d] t (0, 0))) (v : Value) : (w.setCell ⟨g, 2, none⟩ v).heap[g]? = some (.cells #[a, b, v, d] t (0, 0)) := blk_set h 2 v
theorem put43 (h : w.heap[g]? = some (.cells #[a, b, c, d] t (0, 0))) (v : Value) : (w.setCell ⟨g, 3, none⟩ v).heap[g]? = some (.cells #[a, b, c, v] t (0, 0)) := blk_set h 3 v
end
theorem bkD {w : World} {g : Nat} {o : Obj} (h : w.heap[g]? = some o) : w.drew.heap[g]? = some o := h
theorem keeps_drew {B : Nat} {W W1 : World} (h : KeepsFrom B W W1) : KeepsFrom B W W1.drew := ⟨h.1, fun k o h1 h2 h3 => h.2 k o h1 h2 h3⟩
theorem own_ne {α : Type} {d : Kd α} {e base g : Nat} {W : World} {ok : Nat → Prop} {v : Value} {xs : List α} (hR : d.R e W base ok v xs) {cs : Array Value} {t : TypeId} (hg : W.heap[g]? = some (.cells cs t (0, 0))) (ht : t ≠ e) : ∀ k, some k = v.ownBlock → k ≠ g := by
  rintro k hs rfl
  obtain ⟨cells, hc⟩ := Kd.R_typed hR _ hs.symm
  rw [hc] at hg
  cases hg
  exact ht rfl
end Go.Proofs.Ytmkncddbecmlpaa.XB
end
section
set_option linter.unusedVariables false
namespace Go.Proofs.Ytmkncddbecmlpaa.XB
open Go.RowKit Go.Shelf Go.Proofs.YtmkncddbecmlpaaW.PrintWords
variable {F : Fence} {n : Nat} {P : Program} {κ : Type}
structure Keys (P : Program) (kt : TypeId) [DecidableEq κ] (enc : κ → Value) : Prop where
  check : ∀ (x : κ) (e : Bool) (w : World), (Instr.checkKey e 10000 kt (enc x)).run P w = .ok () w
  find : ∀ (x : κ) (xs : List κ) (es : List MapEntry) (w : World), es.map (·.key) = xs.map enc → (∀ e ∈ es, e.val = .agg #[]) →
    (x ∈ xs ∧ ∃ i, (Instr.findKey kt (enc x) es).run P w = .ok (some (i, .agg #[])) w) ∨ (x ∉ xs ∧ (Instr.findKey kt (enc x) es).run P w = .ok none w)
def SetIs (enc : κ → Value) (w : World) (b : Nat) (xs : List κ) : Prop :=
  ∃ es clock, w.heap[b]? = some (.map es clock) ∧ es.toList.map (·.key) = xs.map enc ∧ ∀ e ∈ es.toList, e.val = .agg #[]
variable [DecidableEq κ] {kt et : TypeId} {enc : κ → Value}
theorem SetIs.look {t : TypeId} {w : World} {b : Nat} {xs : List κ} (h : SetIs enc w b xs) (K : Keys P kt enc) (ht : P.underlying t = some (.map kt et)) (hz : (zeroValue et).run P w = .ok (.agg #[]) w) (x : κ) :
    (Instr.lookup t (.map (some b)) (enc x) true).run P w = .ok (.tuple #[.agg #[], .bool (decide (x ∈ xs))]) w := by
  obtain ⟨es, clock, hb, hk, hv⟩ := h
  have hg : (getObj b).run P w = .ok (.map es clock) w := MapKept.run_getObj_map hb
  rcases K.find x xs es.toList w hk hv with ⟨hm, i, hf⟩ | ⟨hm, hf⟩
  · simp [Instr.lookup, run_underlying ht, hg, K.check, hf, hm, Result.andThen]
  · simp [Instr.lookup, run_underlying ht, hg, K.check, hf, hm, hz, Result.andThen]
theorem SetIs.put {t : TypeId} {w : World} {b : Nat} {xs : List κ} (h : SetIs enc w b xs) (K : Keys P kt enc) (ht : P.underlying t = some (.map kt et)) (x : κ) (hx : x ∉ xs) :
    ∃ o : Obj, (Instr.mapUpdate t (.map (some b)) (enc x) (.agg #[])).run P w = .ok () (w.putObj b o) ∧ o.isCells = false ∧ SetIs enc (w.putObj b o) b (xs ++ [x]) := by
  obtain ⟨es, clock, hb, hk, hv⟩ := h
  have hg : (getObj b).run P w = .ok (.map es clock) w := MapKept.run_getObj_map hb
  rcases K.find x xs es.toList w hk hv with ⟨hm, i, hf⟩ | ⟨hm, hf⟩
  · exact absurd hm hx
  · refine ⟨.map (es.push { key := enc x, val := .agg #[], born := clock }) (clock + 1), ?_, rfl, _, _, World.putObj_heap_same (blk_lt hb), ?_, ?_⟩
    · simp [Instr.mapUpdate, run_underlying ht, hg, K.check, hf, Result.andThen]
      exact MapKept.run_setObj_map _ hb
    · simp [hk]
    · intro e he
      simp at he
      rcases he with he | rfl
      · exact hv e (by simpa using he)
      · rfl
theorem keys_string {kt : TypeId} (hk : P.underlying kt = some .string) : Keys P kt Value.string where
  check x e w := MapKept.run_checkKey hk (d := .string) (k := .string x) trivial e 9999
  find x xs es w h1 h2 := by
    have hmem : ∀ e ∈ es, ∃ y ∈ xs, e.key = .string y := fun e he => by
      have : e.key ∈ es.map (·.key) := List.mem_map_of_mem he
      rw [h1] at this
      obtain ⟨y, hy, e'⟩ := List.mem_map.1 this
      exact ⟨y, hy, e'.symm⟩
    have hks : ∀ e ∈ es, MapKept.IsKey .string e.key := fun e he => by
      obtain ⟨y, _, e'⟩ := hmem e he
      rw [e']
      trivial
    rcases MapKept.findNow_spec (d := .string) (k := .string x) trivial es 0 hks with ⟨f1, f2⟩ | ⟨i, e0, f1, f2, f3⟩
    · refine .inr ⟨fun hx => ?_, MapKept.run_findKey hk f1⟩
      have : Value.string x ∈ es.map (·.key) := by rw [h1]; exact List.mem_map_of_mem hx
      obtain ⟨e, he, e'⟩ := List.mem_map.1 this
      exact f2 e he e'
    · have he0 := List.mem_of_getElem? f2
      refine .inl ⟨?_, i, ?_⟩
      · obtain ⟨y, hy, e'⟩ := hmem e0 he0
        rw [f3] at e'
        cases e'
        exact hy
      · have := MapKept.run_findKey hk (w := w) f1
        rw [h2 e0 he0] at this
        simpa using this
end Go.Proofs.Ytmkncddbecmlpaa.XB
namespace Go.Proofs.Ytmkncddbecmlpaa.XB
open Go.RowKit Go.Shelf Go.Proofs.YtmkncddbecmlpaaW.PrintWords
variable {κ : Type} {enc : κ → Value}
theorem SetIs.same {W W' : World} {b : Nat} {xs : List κ} (h : SetIs enc W b xs) (hb : W'.heap[b]? = W.heap[b]?) : SetIs enc W' b xs := by
  obtain ⟨es, clock, h1, h2⟩ := h
  exact ⟨es, clock, hb.trans h1, h2⟩
theorem SetIs.lt {W : World} {b : Nat} {xs : List κ} (h : SetIs enc W b xs) : b < W.heap.size := by
  obtain ⟨es, clock, h1, h2⟩ := h
  exact blk_lt h1
theorem OwnW.set {B : Nat} (g : Nat) (hg : g < B) (xs : List κ) : OwnW B (fun W => SetIs enc W g xs) := fun W W' row h hgr hr => by
  obtain ⟨es, clock, h1, h2⟩ := h
  refine ⟨es, clock, blk_grown h1 hgr (fun e => ?_), h2⟩
  have := (hr g e.symm).1
  omega
theorem below_trans {n : Nat} {A B C : World} (h : Below n A B) (k : Below n B C) : Below n A C := h.trans k
theorem below_put {n : Nat} {W : World} {l : Nat} (o' : Obj) (hn : n ≤ l) (hl : l < W.heap.size) : Below n W (W.putObj l o') :=
  Below.grown (Below.refl n W) (grownBy_putObj' W l o') (by omega) (fun k e => by cases e; exact hn)
end Go.Proofs.Ytmkncddbecmlpaa.XB
end
section
namespace Go.Proofs.Ytmkncddbecmlpaa.Pr
open Go.RowKit Go.Shelf Go.Proofs.Ytmkncddbecmlpaa.XB Go.Proofs.YtmkncddbecmlpaaW.PrintWords
attribute [local go_sem] Oper.semAt_some run_makeMap Result.andThen_ok
set_option linter.unusedVariables false
def told {κ : Type} (vals : Nat → κ) (k : Nat) : List κ := (List.range k).map vals
theorem told_succ {κ : Type} (vals : Nat → κ) (k : Nat) : told vals (k + 1) = told vals k ++ [vals k] := by simp [told, List.range_succ]
theorem told_nodup {κ : Type} {vals : Nat → κ} {k : Nat} (h : (told vals k).Nodup) (hk : vals k ∉ told vals k) : (told vals (k + 1)).Nodup := by
  rw [told_succ, List.nodup_append]
  refine ⟨h, by simp, ?_⟩
  intro a ha b hb hab
  simp at hb
  subst hb
  exact hk (hab ▸ ha)
theorem told_dup {κ : Type} {vals : Nat → κ} {k : Nat} (hk : vals k ∈ told vals k) : ∀ N, k + 1 ≤ N → ¬ (told vals N).Nodup := by
  intro N hN hd
  have h1 : (told vals (k + 1)).Nodup := by
    refine List.Nodup.sublist ?_ hd
    unfold told
    refine List.Sublist.map _ ?_
    exact List.range_sublist.2 hN
  rw [told_succ, List.nodup_append] at h1
  exact h1.2.2 _ hk _ (by simp) rfl
def dup {κ : Type} [DecidableEq κ] (l : List κ) : Bool := !decide l.Nodup
set_option maxRecDepth 100000 in
set_option maxHeartbeats 4000000 in
theorem twice9_calls (gf : Nat) (lb : Array Value) (vals : Nat → ByteArray) (N : Nat) (w : World) (eg : ∀ args w, (callFunc gf args).run Try.prog w = .ok (.enter gf args) w)
    (hseq : IterSeq Fence.wide 8 Try.prog gf lb (fun k => #[.string (vals k)]) N (fun W => Below w.heap.size w W) (fun A B => Below A.heap.size A B) (fun A B => Below w.heap.size A B)) :
    Calls Try.prog 59 #[.func (.func gf) #[] lb] w fun e w' => e = .returned (.bool (dup (told vals N))) ∧ Below w.heap.size w w' := by
  refine (callsIn_wide (n := 9)).1 (callsIn_of_wp_marks Try.func59 rfl trivial ?_ rfl)
  refine XB.QM_wp ?_
  simp only [Try.ntmps59, List.size_toArray, List.length_cons, List.length_nil, Nat.reduceAdd, Nat.reduceSub, Array.replicate_succ, Array.replicate_zero, List.push_toArray, List.append_toArray, List.nil_append, List.cons_append]
  go_wp2
  have hz : ∀ w : World, (zeroValue 110).run Try.prog w = .ok (.agg #[]) w := fun w => by rfl
  have hkey : Keys Try.prog 9 Value.string := keys_string Try.underlying9
  generalize hW : ((w.alloc (.cells #[.bool false] 4)).alloc (.map #[] 0)).alloc (.cells #[.map (some (w.heap.size + 1))] 109) = W
  have F2 : W.heap[w.heap.size]? = some (.cells #[.bool false] 4 (0, 0)) := by rw [← hW]; exact bkA (bkA (heap_alloc_new _ _) _) _
  have FM : SetIs Value.string W (w.heap.size + 1) (told vals 0) := ⟨#[], 0, by rw [← hW]; exact bkA (by simpa using heap_alloc_new (w.alloc (.cells #[.bool false] 4)) (.map #[] 0)) _, rfl, by simp⟩
  have F3 : W.heap[w.heap.size + 1 + 1]? = some (.cells #[.map (some (w.heap.size + 1))] 109 (0, 0)) := by rw [← hW]; simpa using heap_alloc_new ((w.alloc (.cells #[.bool false] 4)).alloc (.map #[] 0)) (.cells #[.map (some (w.heap.size + 1))] 109)
  have FB : Below w.heap.size w W := by rw [← hW]; exact below_alloc (below_alloc (below_alloc (Below.refl _ _) _) _) _
  clear hW
  have hml : w.heap.size + 1 < W.heap.size := FM.lt
  refine XB.wp_range1 (n := 9) (by omega) (gf := gf) (lb := lb) rfl eg (fun k => .string (vals k)) N hseq (OwnW.below (Nat.le_refl _) FB.size) FB (fun A B h => keeps_below h) (fun {A B C} h k => below_trans h k) (fun W_ l o o' hl ho _ => below_put o' (Nat.le_trans FB.size hl) (blk_lt ho)) (by simp)
    (fun k W' => (told vals k).Nodup ∧ SetIs Value.string W' (w.heap.size + 1) (told vals k) ∧ W'.heap[w.heap.size]? = some (.cells #[.bool false] 4 (0, 0)) ∧ W'.heap[w.heap.size + 1 + 1]? = some (.cells #[.map (some (w.heap.size + 1))] 109 (0, 0)) ∧ Below w.heap.size w W')
    (fun c k W' => c = .ret ∧ ¬ (told vals N).Nodup ∧ W'.heap[w.heap.size]? = some (.cells #[.bool true] 4 (0, 0)) ∧ Below w.heap.size w W')
    (fun k => .and (.pure _) (.and (OwnW.set _ hml _) (.and (.blk _ _ _ _) (.and (.blk _ _ _ _) (.below (Nat.le_refl _) FB.size)))))
    (fun c k => .and (.pure _) (.and (.pure _) (.and (.blk _ _ _ _) (.below (Nat.le_refl _) FB.size))))
    (fun k A B h hT => ⟨h.1, h.2.1.same (hT.block _ h.2.1.lt), blk_same h.2.2.1 hT, blk_same h.2.2.2.1 hT, below_step h.2.2.2.2 hT⟩)
    (fun c k A B h hT => ⟨h.1, h.2.1, blk_same h.2.2.1 hT, below_step h.2.2.2 hT⟩)
    ⟨List.nodup_nil, FM, F2, F3, FB⟩ ?body ?done ?stop
  case body =>
    rintro l k W' ⟨hd, hS, G2, G3, GB⟩ hk
    have c3 := (blk_cell G3 0).trans rfl
    gi_wp2_with fail
    have hlook := hS.look hkey Try.underlying109 (hz W') (vals k)
    by_cases hm : vals k ∈ told vals k
    · simp only [hm, decide_true] at hlook
      rw [hlook]
      simp only [Result.andThen_ok]
      have hk' := Lib.hid (told_dup hm N (by omega))
      have HG2 := Lib.hid G2
      have HGB := Lib.hid GB
      have c2 : ∀ o, (W'.alloc o).cell? ⟨w.heap.size, 0, none⟩ = some (.bool false) := fun o => (blk_cell (bkA G2 o) 0).trans rfl
      have d2 : ∀ o, (W'.alloc o).frozen? ⟨w.heap.size, 0, none⟩ = false := fun o => blk_frozen (bkA G2 o) 0
      clear hd hS G2 G3 GB hlook hm
      gi_wp2
      refine ⟨?_, rfl, hk'.out, ?_, ?_⟩
      · (repeat (first | with_reducible exact ((KeepsFrom.refl W.heap.size W')) | with_reducible refine XB.keeps_drew ?_ | with_reducible refine XB.keeps_alloc ?_ _ | with_reducible refine XB.keeps_set ?_ _ _))
      · (repeat (first | with_reducible exact (HG2.out) | with_reducible refine XB.bkD ?_ | with_reducible refine bkA ?_ _ | with_reducible refine blk_far ?_ (by first | assumption | (refine Ne.symm ?_; assumption)) _ | with_reducible apply XB.put10 | with_reducible apply XB.put20 | with_reducible apply XB.put21 | with_reducible apply XB.put30 | with_reducible apply XB.put31 | with_reducible apply XB.put32 | with_reducible apply XB.put40 | with_reducible apply XB.put41 | with_reducible apply XB.put42 | with_reducible apply XB.put43))
      · have hle := Nat.le_refl w.heap.size
        (repeat (first | with_reducible exact (HGB.out) | with_reducible refine below_drew ?_ | with_reducible refine below_alloc ?_ _ | with_reducible refine below_set ?_ (by first | assumption | exact Aside0.out (by assumption))))
    · simp only [hm, decide_false] at hlook
      rw [hlook]
      simp only [Result.andThen_ok]
      have c3' : ∀ o, (W'.alloc o).cell? ⟨w.heap.size + 1 + 1, 0, none⟩ = some (.map (some (w.heap.size + 1))) := fun o => (blk_cell (bkA G3 o) 0).trans rfl
      have hput : ∀ o, ∃ o' : Obj, (Instr.mapUpdate 109 (.map (some (w.heap.size + 1))) (.string (vals k)) (.agg #[])).run Try.prog (W'.alloc o) = .ok () ((W'.alloc o).putObj (w.heap.size + 1) o') ∧ o'.isCells = false ∧ SetIs Value.string ((W'.alloc o).putObj (w.heap.size + 1) o') (w.heap.size + 1) (told vals k ++ [vals k]) :=
        fun o => (hS.same ((Below.alloc (Below.refl W'.heap.size W') (Nat.le_refl _) o).block _ hS.lt)).put hkey Try.underlying109 (vals k) hm
      have HL := Lib.hid hS.lt
      have HG2 := Lib.hid G2; have HG3 := Lib.hid G3; have HGB := Lib.hid GB; have HD := Lib.hid (told_nodup hd hm); have HP := Lib.hid hput
      clear hd hS G2 G3 GB hlook hm hput
      gi_wp2
      obtain ⟨o', hrun, ho', hS'⟩ := HP.out (.cells #[] 110)
      rw [hrun]
      simp only [Result.andThen_ok]
      clear hrun
      have hlt := Lib.hid hml
      clear hml
      gi_wp2
      have hne2 : w.heap.size ≠ w.heap.size + 1 := by omega
      have hne3 : w.heap.size + 1 + 1 ≠ w.heap.size + 1 := by omega
      have HB2 := below_alloc HGB.out (.cells #[] 110)
      refine ⟨⟨?_, ?_⟩, ?_, HD.out, ?_, ?_, ?_, ?_⟩
      · rw [World.putObj_size, World.size_alloc]; omega
      · intro k_ o_ h1 h2 h3
        have := hlt.out
        rw [World.putObj_heap_other (by omega)]
        exact bkA h2 _
      · exact below_trans (Below.alloc (Below.refl _ W') (by have := HGB.out.size; omega) _) (below_put o' (by omega) (by rw [World.size_alloc]; have := HL.out; omega))
      · rw [told_succ]; exact hS'
      · rw [World.putObj_heap_other hne2]; exact bkA HG2.out _
      · rw [World.putObj_heap_other hne3]; exact bkA HG3.out _
      · exact below_trans HB2 (below_put o' (by omega) (by rw [World.size_alloc]; have := HL.out; omega))
  case done =>
    rintro D W' hD ⟨hd, hS, G2, G3, GB⟩ hDD
    rename_i K_ hK_
    refine hK_ _ _ ?_
    clear hK_
    have c2 := (blk_cell G2 0).trans rfl
    have d2 := blk_frozen G2 0
    have hr : dup (told vals N) = false := by unfold dup; rw [decide_eq_true hd]; rfl
    go_wp2
    change XB.QM _ _ _ _ _ _ _
    have hlt : w.heap.size ≠ D := Nat.ne_of_lt (Nat.lt_of_lt_of_le (blk_lt F2) hD)
    have X2 : (W'.setCell ⟨w.heap.size, 0, none⟩ (.bool false)).heap[w.heap.size]? = some (.cells #[.bool false] 4 (0, 0)) := XB.put10 G2 _
    have XD : (W'.setCell ⟨w.heap.size, 0, none⟩ (.bool false)).heap[D]? = some (.deferred (some [])) := (keeps_set (KeepsFrom.refl W.heap.size W') _ _).same D _ hD hDD rfl
    have P2 := (XB.OwnW.blk (B := W.heap.size) _ _ _ _).putObj (.deferred none) X2 hD XD rfl
    refine XB.QM_ret (.inl rfl) XD (XB.resultsX_single rfl (.one _ _ _ _ _ rfl P2 rfl rfl .nil)) ?_
    exact ⟨by rw [hr], (XB.OwnW.below (Nat.le_refl _) FB.size).putObj _ (below_set GB (Nat.le_refl _)) hD XD rfl⟩
  case stop =>
    rintro D c k W' hD hk ⟨rfl, hn, G2, GB⟩ hDD
    have hr : dup (told vals N) = true := by unfold dup; rw [decide_eq_false hn]; rfl
    go_wp2
    change XB.QM _ _ _ _ _ _ _
    have P2 := (XB.OwnW.blk (B := W.heap.size) _ _ _ _).putObj (.deferred none) G2 hD hDD rfl
    refine XB.QM_ret (.inl rfl) hDD (XB.resultsX_single rfl (.one _ _ _ _ _ rfl P2 rfl rfl .nil)) ?_
    exact ⟨by rw [hr], (XB.OwnW.below (Nat.le_refl _) FB.size).putObj _ GB hD hDD rfl⟩
end Go.Proofs.Ytmkncddbecmlpaa.Pr
end
section
namespace Go.Proofs.Ytmkncddbecmlpaa.Pr
open Go.RowKit Go.Shelf Go.Proofs.Ytmkncddbecmlpaa.XB Go.Proofs.YtmkncddbecmlpaaW.PrintWords
attribute [local go_sem] Oper.semAt_some
set_option linter.unusedVariables false
set_option maxRecDepth 100000 in
set_option maxHeartbeats 4000000 in
theorem names1_seq (m : Nat) (hm : 1 ≤ m) (w0 : World) (b1 b2 fo : Nat) (s : ByteArray) (i : Int) (A : Option Addr) (c : Nat) (v3 : Value) (bo : Bool) (xs : List S72) (f : S72 → ByteArray)
    (h1 : w0.heap[b1]? = some (.cells #[.string s, .int .i64 i, .slice A xs.length c, v3, .bool bo] 50 (0, 0))) (h2 : w0.heap[b2]? = some (.cells #[.func (.func fo) #[] #[]] 94 (0, 0))) (hr : Kd.C k72 w0 A xs.length xs) (hc : xs.length ≤ c) (hxs : xs.length ≤ 9223372036854775807)
    (hof : ∀ (x : S72) (w : World), Calls Try.prog fo #[.agg #[.string x.f0, .string x.f1]] w fun e w' => e = .returned (.string (f x)) ∧ Below w.heap.size w w')
    (efo : ∀ args w, (callFunc fo args).run Try.prog w = .ok (.enter fo args) w) :
    IterSeq Fence.wide m Try.prog 75 #[.pointer (some ⟨b1, 0, none⟩), .pointer (some ⟨b2, 0, none⟩)] (fun k => #[.string (f (rd_T72 xs k))]) xs.length (fun W => Below w0.heap.size w0 W) (fun A B => Below A.heap.size A B) (fun A B => Below w0.heap.size A B) := by
  intro l J Jx W hS hJT hJxT hY h0
  have hcell : ∀ W', Below w0.heap.size w0 W' → W'.heap[b1]? = some (.cells #[.string s, .int .i64 i, .slice A xs.length c, v3, .bool bo] 50 (0, 0)) ∧ W'.heap[b2]? = some (.cells #[.func (.func fo) #[] #[]] 94 (0, 0)) := fun W' hb => ⟨blk_same h1 hb, blk_same h2 hb⟩
  have c1 := (blk_cell (hcell W hS).1 2).trans rfl
  refine callsIn_of_wp Try.func75 rfl trivial ?_ rfl
  simp only [Try.ntmps75, List.size_toArray, List.length_cons, List.length_nil, Nat.reduceAdd, Nat.reduceSub, Array.replicate_succ, Array.replicate_zero, List.push_toArray, List.append_toArray, List.nil_append, List.cons_append]
  gi_wp2
  gi_loopw [9] (fun v wr => ∃ k : Nat, k ≤ xs.length ∧ v = .int .i64 k ∧ J k wr ∧ Below w0.heap.size w0 wr)
    (fun v _ => xs.length - (intOf v).toNat)
  case atStart => exact ⟨0, by omega, rfl, h0, hS⟩
  case round =>
    obtain ⟨k, hk, rfl, hJs, hB⟩ := hrel
    by_cases hlt : k < xs.length
    · have d0 := (hcell wr hB)
      have c2 := fun (o : Obj) => (blk_cell (bkA d0.2 o) 0).trans rfl
      obtain ⟨ad, rfl, r0, r1⟩ := at_T72 hr (k : Int) (by omega) (by omega)
      have q0 := (hB.cell (World.block_lt_of_cell? w0 _ r0)).trans r0
      have q1 := (hB.cell (World.block_lt_of_cell? w0 _ r1)).trans r1
      simp only [Int.toNat_natCast] at q0 q1
      clear r0 r1
      gi_wp2_with fail
      refine ⟨trivial, (callsIn_wide.2 (hof (rd_T72 xs (k : Int)) _)).mono ?_⟩
      rintro e W1 ⟨rfl, hb⟩
      have hw : wrap64 ((k : Int) + 1) = (k : Int) + 1 := by unfold wrap64; omega
      have hstep : Below wr.heap.size wr W1 := below_step (below_alloc (Below.refl _ _) _) hb
      have hB1 : Below w0.heap.size w0 W1 := below_step hB hstep
      obtain ⟨fn, tmps, assign, body, hy, hR⟩ := hY k W1 (hJT k _ _ hJs hstep) hlt
      clear hb c2 q0 q1 d0
      gi_wp2
      refine hR.mono ?_
      rintro e W3 (⟨rfl, hJ3, hk3⟩ | ⟨rfl, hJx3⟩)
      · gi_wp2
        go_roundw
        case rel => exact ⟨k + 1, by omega, by simp, hJ3, below_trans hB1 hk3⟩
        case measure => simp [intOf]; omega
      · gi_wp2
        refine bodyPost_ret (results_none rfl _ _ _) rfl ?_
        exact ⟨⟨_, rfl⟩, .inr ⟨k + 1, by omega, hJx3⟩⟩
    · obtain rfl : k = xs.length := by omega
      gi_wp2
      go_end0
      exact ⟨⟨_, rfl⟩, .inl hJs⟩
set_option maxRecDepth 100000 in
set_option maxHeartbeats 4000000 in
theorem cells1_seq (m : Nat) (hm : 1 ≤ m) (w0 : World) (b1 b2 fo : Nat) (s : ByteArray) (i : Int) (v2 : Value) (A : Option Addr) (c : Nat) (bo : Bool) (xs : List S74) (f : S74 → ByteArray × ByteArray)
    (h1 : w0.heap[b1]? = some (.cells #[.string s, .int .i64 i, v2, .slice A xs.length c, .bool bo] 50 (0, 0))) (h2 : w0.heap[b2]? = some (.cells #[.func (.func fo) #[] #[]] 101 (0, 0))) (hr : Kd.C k74 w0 A xs.length xs) (hc : xs.length ≤ c) (hxs : xs.length ≤ 9223372036854775807)
    (hof : ∀ (x : S74) (w : World), Calls Try.prog fo #[.agg #[.string x.f0, .string x.f1, .string x.f2]] w fun e w' => e = .returned (.agg #[.string (f x).1, .string (f x).2]) ∧ Below w.heap.size w w')
    (efo : ∀ args w, (callFunc fo args).run Try.prog w = .ok (.enter fo args) w) :
    IterSeq Fence.wide m Try.prog 76 #[.pointer (some ⟨b1, 0, none⟩), .pointer (some ⟨b2, 0, none⟩)] (fun k => #[.agg #[.string (f (rd_T74 xs k)).1, .string (f (rd_T74 xs k)).2]]) xs.length (fun W => Below w0.heap.size w0 W) (fun A B => Below A.heap.size A B) (fun A B => Below w0.heap.size A B) := by
  intro l J Jx W hS hJT hJxT hY h0
  have hcell : ∀ W', Below w0.heap.size w0 W' → W'.heap[b1]? = some (.cells #[.string s, .int .i64 i, v2, .slice A xs.length c, .bool bo] 50 (0, 0)) ∧ W'.heap[b2]? = some (.cells #[.func (.func fo) #[] #[]] 101 (0, 0)) := fun W' hb => ⟨blk_same h1 hb, blk_same h2 hb⟩
  have c1 := (blk_cell (hcell W hS).1 3).trans rfl
  refine callsIn_of_wp Try.func76 rfl trivial ?_ rfl
  simp only [Try.ntmps76, List.size_toArray, List.length_cons, List.length_nil, Nat.reduceAdd, Nat.reduceSub, Array.replicate_succ, Array.replicate_zero, List.push_toArray, List.append_toArray, List.nil_append, List.cons_append]
  gi_wp2
  gi_loopw [9] (fun v wr => ∃ k : Nat, k ≤ xs.length ∧ v = .int .i64 k ∧ J k wr ∧ Below w0.heap.size w0 wr)
    (fun v _ => xs.length - (intOf v).toNat)
  case atStart => exact ⟨0, by omega, rfl, h0, hS⟩
  case round =>
    obtain ⟨k, hk, rfl, hJs, hB⟩ := hrel
    by_cases hlt : k < xs.length
    · have d0 := (hcell wr hB)
      have c2 := fun (o : Obj) => (blk_cell (bkA d0.2 o) 0).trans rfl
      obtain ⟨ad, rfl, r0, r1, r2⟩ := at_T74 hr (k : Int) (by omega) (by omega)
      have q0 := (hB.cell (World.block_lt_of_cell? w0 _ r0)).trans r0
      have q1 := (hB.cell (World.block_lt_of_cell? w0 _ r1)).trans r1
      have q2 := (hB.cell (World.block_lt_of_cell? w0 _ r2)).trans r2
      simp only [Int.toNat_natCast] at q0 q1 q2
      clear r0 r1 r2
      gi_wp2_with fail
      refine ⟨trivial, (callsIn_wide.2 (hof (rd_T74 xs (k : Int)) _)).mono ?_⟩
      rintro e W1 ⟨rfl, hb⟩
      have hw : wrap64 ((k : Int) + 1) = (k : Int) + 1 := by unfold wrap64; omega
      have hstep : Below wr.heap.size wr W1 := below_step (below_alloc (Below.refl _ _) _) hb
      have hB1 : Below w0.heap.size w0 W1 := below_step hB hstep
      obtain ⟨fn, tmps, assign, body, hy, hR⟩ := hY k W1 (hJT k _ _ hJs hstep) hlt
      clear hb c2 q0 q1 q2 d0
      gi_wp2
      refine hR.mono ?_
      rintro e W3 (⟨rfl, hJ3, hk3⟩ | ⟨rfl, hJx3⟩)
      · gi_wp2
        go_roundw
        case rel => exact ⟨k + 1, by omega, by simp, hJ3, below_trans hB1 hk3⟩
        case measure => simp [intOf]; omega
      · gi_wp2
        refine bodyPost_ret (results_none rfl _ _ _) rfl ?_
        exact ⟨⟨_, rfl⟩, .inr ⟨k + 1, by omega, hJx3⟩⟩
    · obtain rfl : k = xs.length := by omega
      gi_wp2
      go_end0
      exact ⟨⟨_, rfl⟩, .inl hJs⟩
end Go.Proofs.Ytmkncddbecmlpaa.Pr
end
section
namespace Go.Proofs.Ytmkncddbecmlpaa.Pr
open Go.RowKit Go.Shelf Go.Proofs.Ytmkncddbecmlpaa.XB Go.Proofs.YtmkncddbecmlpaaW.PrintWords
attribute [local go_sem] Oper.semAt_some
set_option linter.unusedVariables false
def idx {α : Type} (p : α → Bool) (xs : List α) : Int := match xs.findIdx? p with | some i => i | none => -1
theorem idx_none {α : Type} {p : α → Bool} {xs : List α} (h : ∀ j, (hj : j < xs.length) → p xs[j] = false) : idx p xs = -1 := by
  unfold idx
  rw [List.findIdx?_eq_none_iff.2]
  intro x hx
  obtain ⟨j, hj, rfl⟩ := List.getElem_of_mem hx
  exact h j hj
theorem idx_some {α : Type} {p : α → Bool} {xs : List α} {k : Nat} (hk : k < xs.length) (hp : p xs[k] = true) (h : ∀ j, (hj : j < k) → p (xs[j]'(by omega)) = false) : idx p xs = k := by
  unfold idx
  rw [List.findIdx?_eq_some_iff_getElem.2 ⟨hk, hp, fun j hj => by simp [h j hj]⟩]
theorem idx_cases {α : Type} (p : α → Bool) (xs : List α) : (idx p xs = -1 ∧ xs.find? p = none) ∨ ∃ k, ∃ hk : k < xs.length, idx p xs = k ∧ xs.find? p = some xs[k] := by
  unfold idx
  cases h : xs.findIdx? p with
  | none => exact .inl ⟨rfl, by rw [List.find?_eq_none]; rw [List.findIdx?_eq_none_iff] at h; intro x hx; simp [h x hx]⟩
  | some i =>
    obtain ⟨hi, hp, hj⟩ := List.findIdx?_eq_some_iff_getElem.1 h
    exact .inr ⟨i, hi, rfl, by rw [List.find?_eq_some_iff_getElem]; exact ⟨hp, i, hi, rfl, fun j hj' => by simpa using hj j hj'⟩⟩
theorem idx_any {α : Type} (p : α → Bool) (xs : List α) : decide (idx p xs ≥ 0) = xs.any p := by
  rcases idx_cases p xs with ⟨h1, h2⟩ | ⟨k, hk, h1, h2⟩
  · rw [h1]
    rw [List.find?_eq_none] at h2
    have : xs.any p = false := by rw [List.any_eq_false]; exact h2
    rw [this]
    rfl
  · rw [h1]
    have h3 := List.find?_some h2
    have : xs.any p = true := List.any_eq_true.2 ⟨_, List.getElem_mem hk, h3⟩
    rw [this]
    simp
theorem rd72_get {xs : List S72} {k : Nat} (h : k < xs.length) : rd_T72 xs k = xs[k] := by
  unfold rd_T72
  simp [h]
theorem rd74_get {xs : List S74} {k : Nat} (h : k < xs.length) : rd_T74 xs k = xs[k] := by
  unfold rd_T74
  simp [h]
set_option maxRecDepth 100000 in
set_option maxHeartbeats 4000000 in
theorem index71_calls (pf : Nat) (lb : Array Value) (p : S72 → Bool) (A : Option Addr) (c : Nat) (xs : List S72) (w : World) (hr : Kd.C k72 w A xs.length xs) (hc : xs.length ≤ c) (hxs : xs.length ≤ 9223372036854775807)
    (epf : ∀ args w, (callFunc pf args).run Try.prog w = .ok (.enter pf args) w)
    (hp : ∀ (x : S72) (W : World), Below w.heap.size w W → Calls Try.prog pf (#[.agg #[.string x.f0, .string x.f1]] ++ lb) W fun e W' => e = .returned (.bool (p x)) ∧ Below W.heap.size W W') :
    Calls Try.prog 71 #[.slice A xs.length c, .func (.func pf) #[] lb] w fun e w' => e = .returned (.int .i64 (idx p xs)) ∧ Below w.heap.size w w' := by
  refine (callsIn_wide (n := 9)).1 (callsIn_of_wp Try.func71 rfl trivial ?_ rfl)
  simp only [Try.ntmps71, List.size_toArray, List.length_cons, List.length_nil, Nat.reduceAdd, Nat.reduceSub, Array.replicate_succ, Array.replicate_zero, List.push_toArray, List.append_toArray, List.nil_append, List.cons_append]
  gi_wp2
  gi_loopw [8] (fun v wr => ∃ k : Nat, k ≤ xs.length ∧ v = .int .i64 k ∧ (∀ j, (hj : j < xs.length) → j < k → p xs[j] = false) ∧ Below w.heap.size w wr)
    (fun v _ => xs.length - (intOf v).toNat)
  case atStart => exact ⟨0, by omega, rfl, fun j _ h => absurd h (by omega), Below.refl _ _⟩
  case round =>
    obtain ⟨k, hk, rfl, hJs, hB⟩ := hrel
    by_cases hlt : k < xs.length
    · obtain ⟨ad, rfl, r0, r1⟩ := at_T72 hr (k : Int) (by omega) (by omega)
      have q0 := (hB.cell (World.block_lt_of_cell? w _ r0)).trans r0
      have q1 := (hB.cell (World.block_lt_of_cell? w _ r1)).trans r1
      simp only [Int.toNat_natCast] at q0 q1
      clear r0 r1
      gi_wp2_with fail
      refine ⟨trivial, (callsIn_wide.2 (hp (rd_T72 xs (k : Int)) _ hB)).mono ?_⟩
      rintro e W1 ⟨rfl, hb⟩
      have hw : wrap64 ((k : Int) + 1) = (k : Int) + 1 := by unfold wrap64; omega
      have hB1 : Below w.heap.size w W1 := below_step hB hb
      clear hb q0 q1
      cases hpk : p (rd_T72 xs (k : Int))
      · gi_wp2
        go_roundw
        case rel =>
          refine ⟨k + 1, by omega, by simp, fun j hj h => ?_, hB1⟩
          by_cases hjk : j < k
          · exact hJs j hj hjk
          · obtain rfl : j = k := by omega
            rw [← rd72_get hlt]
            exact hpk
        case measure => simp [intOf]; omega
      · have he : idx p xs = k := idx_some hlt (by rw [← rd72_get hlt]; exact hpk) (fun j hj => hJs j (by omega) hj)
        gi_wp2
        go_ret
        exact ⟨by rw [he]; rfl, hB1⟩
    · obtain rfl : k = xs.length := by omega
      have he : idx p xs = -1 := idx_none (fun j hj => hJs j hj hj)
      gi_wp2
      go_ret
      exact ⟨by rw [he]; rfl, hB⟩
theorem contains57_calls (pf : Nat) (lb : Array Value) (p : S72 → Bool) (A : Option Addr) (c : Nat) (xs : List S72) (w : World) (hr : Kd.C k72 w A xs.length xs) (hc : xs.length ≤ c) (hxs : xs.length ≤ 9223372036854775807)
    (epf : ∀ args w, (callFunc pf args).run Try.prog w = .ok (.enter pf args) w)
    (hp : ∀ (x : S72) (W : World), Below w.heap.size w W → Calls Try.prog pf (#[.agg #[.string x.f0, .string x.f1]] ++ lb) W fun e W' => e = .returned (.bool (p x)) ∧ Below W.heap.size W W') :
    Calls Try.prog 57 #[.slice A xs.length c, .func (.func pf) #[] lb] w fun e w' => e = .returned (.bool (xs.any p)) ∧ Below w.heap.size w w' := by
  go_enter Try.func57, Try.ntmps57
  go_wp2_with fail
  refine (index71_calls pf lb p A c xs w hr hc hxs epf hp).mono ?_
  rintro e W1 ⟨rfl, hb⟩
  go_wp2
  go_ret
  exact ⟨by rw [← idx_any]; rfl, hb⟩
def fnd {α : Type} (z : α) (p : α → Bool) (xs : List α) : α × Bool := match xs.find? p with | some x => (x, true) | none => (z, false)
set_option maxRecDepth 100000 in
set_option maxHeartbeats 4000000 in
theorem find50_calls (pf : Nat) (lb : Array Value) (p : S72 → Bool) (A : Option Addr) (c : Nat) (xs : List S72) (w : World) (hr : Kd.C k72 w A xs.length xs) (hc : xs.length ≤ c) (hxs : xs.length ≤ 9223372036854775807)
    (epf : ∀ args w, (callFunc pf args).run Try.prog w = .ok (.enter pf args) w)
    (hp : ∀ (x : S72) (W : World), Below w.heap.size w W → Calls Try.prog pf (#[.agg #[.string x.f0, .string x.f1]] ++ lb) W fun e W' => e = .returned (.bool (p x)) ∧ Below W.heap.size W W') :
    Calls Try.prog 50 #[.slice A xs.length c, .func (.func pf) #[] lb] w fun e w' => e = .returned (.tuple #[.agg #[.string (fnd z72 p xs).1.f0, .string (fnd z72 p xs).1.f1], .bool (fnd z72 p xs).2]) ∧ Below w.heap.size w w' := by
  go_enter Try.func50, Try.ntmps50
  go_wp2_with fail
  generalize hU : w.alloc _ = U
  have HU : Below w.heap.size w U := by rw [← hU]; exact below_alloc (Below.refl _ _) _
  have G0 : U.heap[w.heap.size]? = some (.cells #[.string default, .string default] 72 (0, 0)) := by rw [← hU]; exact heap_alloc_new _ _
  clear hU
  refine (index71_calls pf lb p A c xs U (Kd.C_below hr HU) hc hxs epf (fun x W hb => hp x W (below_step HU hb))).mono ?_
  rintro e W1 ⟨rfl, hb⟩
  have HW : Below w.heap.size w W1 := below_step HU hb
  have G1 := blk_same G0 hb
  have hr1 := Kd.C_below hr HW
  have c0 := (blk_cell G1 0).trans rfl
  have c1 := (blk_cell G1 1).trans rfl
  have d0 := blk_frozen G1 0
  have d1 := blk_frozen G1 1
  rcases idx_cases p xs with ⟨h1, h2⟩ | ⟨k, hk, h1, h2⟩
  · rw [h1]
    go_wp2
    have X := XB.put21 (XB.put20 G1 (.string default)) (.string default)
    refine bodyPost_ret (XB.resultsX_list (rs := [.cell 4 72, .tmp 5]) rfl (by simp) (.cell _ _ _ _ _ rfl X Try.underlying72 rfl rfl (.tmp .nil))) rfl ?_
    exact ⟨by unfold fnd; rw [h2]; rfl, below_set (below_set HW (Nat.le_refl _)) (Nat.le_refl _)⟩
  · rw [h1]
    obtain ⟨ad, rfl, r0, r1⟩ := at_T72 hr1 (k : Int) (by omega) (by omega)
    simp only [Int.toNat_natCast] at r0 r1
    have hk0 : ¬ (k : Int) < 0 := by omega
    go_wp2
    have X := XB.put21 (XB.put20 G1 (.string (rd_T72 xs k).f0)) (.string (rd_T72 xs k).f1)
    refine bodyPost_ret (XB.resultsX_list (rs := [.cell 4 72, .tmp 5]) rfl (by simp) (.cell _ _ _ _ _ rfl X Try.underlying72 rfl rfl (.tmp .nil))) rfl ?_
    exact ⟨by unfold fnd; rw [h2]; dsimp only; rw [← rd72_get hk]; rfl, below_set (below_set HW (Nat.le_refl _)) (Nat.le_refl _)⟩
set_option maxRecDepth 100000 in
set_option maxHeartbeats 4000000 in
theorem index74_calls (pf : Nat) (lb : Array Value) (p : S74 → Bool) (A : Option Addr) (c : Nat) (xs : List S74) (w : World) (hr : Kd.C k74 w A xs.length xs) (hc : xs.length ≤ c) (hxs : xs.length ≤ 9223372036854775807)
    (epf : ∀ args w, (callFunc pf args).run Try.prog w = .ok (.enter pf args) w)
    (hp : ∀ (x : S74) (W : World), Below w.heap.size w W → Calls Try.prog pf (#[.agg #[.string x.f0, .string x.f1, .string x.f2]] ++ lb) W fun e W' => e = .returned (.bool (p x)) ∧ Below W.heap.size W W') :
    Calls Try.prog 74 #[.slice A xs.length c, .func (.func pf) #[] lb] w fun e w' => e = .returned (.int .i64 (idx p xs)) ∧ Below w.heap.size w w' := by
  refine (callsIn_wide (n := 9)).1 (callsIn_of_wp Try.func74 rfl trivial ?_ rfl)
  simp only [Try.ntmps74, List.size_toArray, List.length_cons, List.length_nil, Nat.reduceAdd, Nat.reduceSub, Array.replicate_succ, Array.replicate_zero, List.push_toArray, List.append_toArray, List.nil_append, List.cons_append]
  gi_wp2
  gi_loopw [8] (fun v wr => ∃ k : Nat, k ≤ xs.length ∧ v = .int .i64 k ∧ (∀ j, (hj : j < xs.length) → j < k → p xs[j] = false) ∧ Below w.heap.size w wr)
    (fun v _ => xs.length - (intOf v).toNat)
  case atStart => exact ⟨0, by omega, rfl, fun j _ h => absurd h (by omega), Below.refl _ _⟩
  case round =>
    obtain ⟨k, hk, rfl, hJs, hB⟩ := hrel
    by_cases hlt : k < xs.length
    · obtain ⟨ad, rfl, r0, r1, r2⟩ := at_T74 hr (k : Int) (by omega) (by omega)
      have q0 := (hB.cell (World.block_lt_of_cell? w _ r0)).trans r0
      have q1 := (hB.cell (World.block_lt_of_cell? w _ r1)).trans r1
      have q2 := (hB.cell (World.block_lt_of_cell? w _ r2)).trans r2
      simp only [Int.toNat_natCast] at q0 q1 q2
      clear r0 r1 r2
      gi_wp2_with fail
      refine ⟨trivial, (callsIn_wide.2 (hp (rd_T74 xs (k : Int)) _ hB)).mono ?_⟩
      rintro e W1 ⟨rfl, hb⟩
      have hw : wrap64 ((k : Int) + 1) = (k : Int) + 1 := by unfold wrap64; omega
      have hB1 : Below w.heap.size w W1 := below_step hB hb
      clear hb q0 q1 q2
      cases hpk : p (rd_T74 xs (k : Int))
      · gi_wp2
        go_roundw
        case rel =>
          refine ⟨k + 1, by omega, by simp, fun j hj h => ?_, hB1⟩
          by_cases hjk : j < k
          · exact hJs j hj hjk
          · obtain rfl : j = k := by omega
            rw [← rd74_get hlt]
            exact hpk
        case measure => simp [intOf]; omega
      · have he : idx p xs = k := idx_some hlt (by rw [← rd74_get hlt]; exact hpk) (fun j hj => hJs j (by omega) hj)
        gi_wp2
        go_ret
        exact ⟨by rw [he]; rfl, hB1⟩
    · obtain rfl : k = xs.length := by omega
      have he : idx p xs = -1 := idx_none (fun j hj => hJs j hj hj)
      gi_wp2
      go_ret
      exact ⟨by rw [he]; rfl, hB⟩
theorem contains58_calls (pf : Nat) (lb : Array Value) (p : S74 → Bool) (A : Option Addr) (c : Nat) (xs : List S74) (w : World) (hr : Kd.C k74 w A xs.length xs) (hc : xs.length ≤ c) (hxs : xs.length ≤ 9223372036854775807)
    (epf : ∀ args w, (callFunc pf args).run Try.prog w = .ok (.enter pf args) w)
    (hp : ∀ (x : S74) (W : World), Below w.heap.size w W → Calls Try.prog pf (#[.agg #[.string x.f0, .string x.f1, .string x.f2]] ++ lb) W fun e W' => e = .returned (.bool (p x)) ∧ Below W.heap.size W W') :
    Calls Try.prog 58 #[.slice A xs.length c, .func (.func pf) #[] lb] w fun e w' => e = .returned (.bool (xs.any p)) ∧ Below w.heap.size w w' := by
  go_enter Try.func58, Try.ntmps58
  go_wp2_with fail
  refine (index74_calls pf lb p A c xs w hr hc hxs epf hp).mono ?_
  rintro e W1 ⟨rfl, hb⟩
  go_wp2
  go_ret
  exact ⟨by rw [← idx_any]; rfl, hb⟩
set_option maxRecDepth 100000 in
set_option maxHeartbeats 4000000 in
theorem find65_calls (pf : Nat) (lb : Array Value) (p : S74 → Bool) (A : Option Addr) (c : Nat) (xs : List S74) (w : World) (hr : Kd.C k74 w A xs.length xs) (hc : xs.length ≤ c) (hxs : xs.length ≤ 9223372036854775807)
    (epf : ∀ args w, (callFunc pf args).run Try.prog w = .ok (.enter pf args) w)
    (hp : ∀ (x : S74) (W : World), Below w.heap.size w W → Calls Try.prog pf (#[.agg #[.string x.f0, .string x.f1, .string x.f2]] ++ lb) W fun e W' => e = .returned (.bool (p x)) ∧ Below W.heap.size W W') :
    Calls Try.prog 65 #[.slice A xs.length c, .func (.func pf) #[] lb] w fun e w' => e = .returned (.tuple #[.agg #[.string (fnd z74 p xs).1.f0, .string (fnd z74 p xs).1.f1, .string (fnd z74 p xs).1.f2], .bool (fnd z74 p xs).2]) ∧ Below w.heap.size w w' := by
  go_enter Try.func65, Try.ntmps65
  go_wp2_with fail
  generalize hU : w.alloc _ = U
  have HU : Below w.heap.size w U := by rw [← hU]; exact below_alloc (Below.refl _ _) _
  have G0 : U.heap[w.heap.size]? = some (.cells #[.string default, .string default, .string default] 74 (0, 0)) := by rw [← hU]; exact heap_alloc_new _ _
  clear hU
  refine (index74_calls pf lb p A c xs U (Kd.C_below hr HU) hc hxs epf (fun x W hb => hp x W (below_step HU hb))).mono ?_
  rintro e W1 ⟨rfl, hb⟩
  have HW : Below w.heap.size w W1 := below_step HU hb
  have G1 := blk_same G0 hb
  have hr1 := Kd.C_below hr HW
  have c0 := (blk_cell G1 0).trans rfl
  have c1 := (blk_cell G1 1).trans rfl
  have c2 := (blk_cell G1 2).trans rfl
  have d2 := blk_frozen G1 2
  have d0 := blk_frozen G1 0
  have d1 := blk_frozen G1 1
  rcases idx_cases p xs with ⟨h1, h2⟩ | ⟨k, hk, h1, h2⟩
  · rw [h1]
    go_wp2
    have X := XB.put32 (XB.put31 (XB.put30 G1 (.string default)) (.string default)) (.string default)
    refine bodyPost_ret (XB.resultsX_list (rs := [.cell 4 74, .tmp 5]) rfl (by simp) (.cell _ _ _ _ _ rfl X Try.underlying74 rfl rfl (.tmp .nil))) rfl ?_
    exact ⟨by unfold fnd; rw [h2]; rfl, below_set (below_set (below_set HW (Nat.le_refl _)) (Nat.le_refl _)) (Nat.le_refl _)⟩
  · rw [h1]
    obtain ⟨ad, rfl, r0, r1, r2⟩ := at_T74 hr1 (k : Int) (by omega) (by omega)
    simp only [Int.toNat_natCast] at r0 r1 r2
    have hk0 : ¬ (k : Int) < 0 := by omega
    go_wp2
    have X := XB.put32 (XB.put31 (XB.put30 G1 (.string (rd_T74 xs k).f0)) (.string (rd_T74 xs k).f1)) (.string (rd_T74 xs k).f2)
    refine bodyPost_ret (XB.resultsX_list (rs := [.cell 4 74, .tmp 5]) rfl (by simp) (.cell _ _ _ _ _ rfl X Try.underlying74 rfl rfl (.tmp .nil))) rfl ?_
    exact ⟨by unfold fnd; rw [h2]; dsimp only; rw [← rd74_get hk]; rfl, below_set (below_set (below_set HW (Nat.le_refl _)) (Nat.le_refl _)) (Nat.le_refl _)⟩
end Go.Proofs.Ytmkncddbecmlpaa.Pr
end
section
namespace Go.Proofs.Ytmkncddbecmlpaa.Pr
open Go.RowKit Go.Shelf Go.Proofs.Ytmkncddbecmlpaa.XB Go.Proofs.YtmkncddbecmlpaaW.PrintWords
attribute [local go_sem] Oper.semAt_some
set_option linter.unusedVariables false
def oddName (n : S72) : Bool := decide ((n.f0.size : Int) > 100) || decide ((n.f1.size : Int) ≠ 16)
def oddCell (c : S74) : Bool := decide ((c.f0.size : Int) ≠ 16) || decide ((c.f1.size : Int) ≠ 24) || decide ((c.f2.size : Int) ≠ 40)
theorem str_eq (a b : ByteArray) : (a.toList == b.toList) = decide (a = b) := by
  have h : a.toList = b.toList ↔ a = b := by
    rw [ByteArray.toList_eq, ByteArray.toList_eq]
    constructor
    · intro h
      obtain ⟨⟨x⟩⟩ := a
      obtain ⟨⟨y⟩⟩ := b
      simp at h
      rw [h]
    · rintro rfl; rfl
  by_cases h1 : a = b <;> simp [h, h1]
set_option maxRecDepth 100000 in
theorem oddName_calls (x : S72) (w : World) : Calls Try.prog 55 #[.agg #[.string x.f0, .string x.f1]] w fun e w' => e = .returned (.bool (oddName x)) ∧ Below w.heap.size w w' := by
  go_enter Try.func55, Try.ntmps55
  by_cases h : (x.f0.size : Int) > 100
  · go_wp2
    go_ret
    exact ⟨by simp [oddName, h], below_alloc (Below.refl _ _) _⟩
  · go_wp2
    go_ret
    refine ⟨?_, below_alloc (Below.refl _ _) _⟩
    by_cases h2 : (x.f1.size : Int) = 16 <;> simp [oddName, h2] <;> omega
set_option maxRecDepth 100000 in
theorem oddCell_calls (x : S74) (w : World) : Calls Try.prog 56 #[.agg #[.string x.f0, .string x.f1, .string x.f2]] w fun e w' => e = .returned (.bool (oddCell x)) ∧ Below w.heap.size w w' := by
  go_enter Try.func56, Try.ntmps56
  by_cases h : (x.f0.size : Int) = 16
  · by_cases h1 : (x.f1.size : Int) = 24
    · go_wp2
      go_ret
      refine ⟨?_, below_alloc (Below.refl _ _) _⟩
      by_cases h2 : (x.f2.size : Int) = 40 <;> simp [oddCell, h, h1, h2]
    · go_wp2
      go_ret
      refine ⟨?_, below_alloc (Below.refl _ _) _⟩
      simp [oddCell, h, h1]
  · go_wp2
    go_ret
    refine ⟨?_, below_alloc (Below.refl _ _) _⟩
    simp [oddCell, h]
set_option maxRecDepth 100000 in
theorem askIn_calls (x : S72) (t : ByteArray) (b : Nat) (w0 w : World) (hb : w0.heap[b]? = some (.cells #[.string t] 9 (0, 0))) (hw : Below w0.heap.size w0 w) :
    Calls Try.prog 51 (#[.agg #[.string x.f0, .string x.f1]] ++ #[.pointer (some ⟨b, 0, none⟩)]) w fun e w' => e = .returned (.bool (decide (x.f0 = t))) ∧ Below w.heap.size w w' := by
  have hb' := blk_same hb hw
  have c2 := fun (o : Obj) => (blk_cell (bkA hb' o) 0).trans rfl
  go_enter Try.func51, Try.ntmps51
  go_wp2
  go_ret
  exact ⟨by simp [str_eq], below_alloc (Below.refl _ _) _⟩
set_option maxRecDepth 100000 in
theorem askText_calls (x : S74) (l t : ByteArray) (b1 b2 : Nat) (w0 w : World) (h1 : w0.heap[b1]? = some (.cells #[.string l] 9 (0, 0))) (h2 : w0.heap[b2]? = some (.cells #[.string t] 9 (0, 0))) (hw : Below w0.heap.size w0 w) :
    Calls Try.prog 66 (#[.agg #[.string x.f0, .string x.f1, .string x.f2]] ++ #[.pointer (some ⟨b1, 0, none⟩), .pointer (some ⟨b2, 0, none⟩)]) w fun e w' => e = .returned (.bool (decide (x.f0 = l) && decide (x.f1 = t))) ∧ Below w.heap.size w w' := by
  have h1' := blk_same h1 hw
  have h2' := blk_same h2 hw
  have c1 := fun (o : Obj) => (blk_cell (bkA h1' o) 0).trans rfl
  have c2 := fun (o : Obj) => (blk_cell (bkA h2' o) 0).trans rfl
  go_enter Try.func66, Try.ntmps66
  have hs := str_eq x.f0 l
  by_cases h : x.f0 = l
  · simp only [h, decide_true] at hs
    rw [h]
    go_wp2
    go_ret
    exact ⟨by simp [str_eq], below_alloc (Below.refl _ _) _⟩
  · simp only [h, decide_false] at hs
    go_wp2
    go_ret
    exact ⟨by simp [h], below_alloc (Below.refl _ _) _⟩
set_option maxRecDepth 100000 in
theorem askCell_calls (x : S74) (l t : ByteArray) (b1 b2 : Nat) (w0 w : World) (h1 : w0.heap[b1]? = some (.cells #[.string l] 9 (0, 0))) (h2 : w0.heap[b2]? = some (.cells #[.string t] 9 (0, 0))) (hw : Below w0.heap.size w0 w) :
    Calls Try.prog 67 (#[.agg #[.string x.f0, .string x.f1, .string x.f2]] ++ #[.pointer (some ⟨b1, 0, none⟩), .pointer (some ⟨b2, 0, none⟩)]) w fun e w' => e = .returned (.bool (decide (x.f0 = l) && decide (x.f2 = t))) ∧ Below w.heap.size w w' := by
  have h1' := blk_same h1 hw
  have h2' := blk_same h2 hw
  have c1 := fun (o : Obj) => (blk_cell (bkA h1' o) 0).trans rfl
  have c2 := fun (o : Obj) => (blk_cell (bkA h2' o) 0).trans rfl
  go_enter Try.func67, Try.ntmps67
  have hs := str_eq x.f0 l
  by_cases h : x.f0 = l
  · simp only [h, decide_true] at hs
    rw [h]
    go_wp2
    go_ret
    exact ⟨by simp [str_eq], below_alloc (Below.refl _ _) _⟩
  · simp only [h, decide_false] at hs
    go_wp2
    go_ret
    exact ⟨by simp [h], below_alloc (Below.refl _ _) _⟩
end Go.Proofs.Ytmkncddbecmlpaa.Pr
end
section
namespace Go.Proofs.Ytmkncddbecmlpaa.Pr
open Go.RowKit Go.Shelf Go.Proofs.Ytmkncddbecmlpaa.XB Go.Proofs.YtmkncddbecmlpaaW.PrintWords
set_option linter.unusedVariables false
def ideal_find_51.f (l : List S72) (a : ByteArray) : Option (ByteArray × ByteArray × Bool) := some ((fnd z72 (fun n => decide (n.f0 = a)) l).1.f0, (fnd z72 (fun n => decide (n.f0 = a)) l).1.f1, (fnd z72 (fun n => decide (n.f0 = a)) l).2)
theorem ideal_find_51.calls (A : Option Addr) (c : Nat) (l : List S72) (a1 : ByteArray) (r1 r2 : ByteArray) (r3 : Bool) {b : Nat} (w : World) (hr : Kd.C k72 w A l.length l) (hc : l.length ≤ c) (hb : w.heap[b]? = some (.cells #[.string a1] 9 (0, 0))) (h : ideal_find_51.f l a1 = some (r1, r2, r3)) :
    Calls Try.prog 50 #[.slice A l.length c, .func (.func 51) #[] #[.pointer (some ⟨b, 0, none⟩)]] w fun e w' => e = .returned (.tuple #[.agg #[.string r1, .string r2], .bool r3]) ∧ Below w.heap.size w w' := by
  cases h
  exact find50_calls 51 _ _ A c l w hr hc (Kd.C_max hr) (enters_of Try.func51 (by kernel_rfl) rfl) (fun x W hW => askIn_calls x a1 b w W hb hW)
def ideal_find_66.f (l : List S74) (a1 a2 : ByteArray) : Option (ByteArray × ByteArray × ByteArray × Bool) :=
  some ((fnd z74 (fun n => decide (n.f0 = a1) && decide (n.f1 = a2)) l).1.f0, (fnd z74 (fun n => decide (n.f0 = a1) && decide (n.f1 = a2)) l).1.f1, (fnd z74 (fun n => decide (n.f0 = a1) && decide (n.f1 = a2)) l).1.f2, (fnd z74 (fun n => decide (n.f0 = a1) && decide (n.f1 = a2)) l).2)
theorem ideal_find_66.calls (A : Option Addr) (c : Nat) (l : List S74) (a1 a2 : ByteArray) (r1 r2 r3 : ByteArray) (r4 : Bool) {b1 b2 : Nat} (w : World) (hr : Kd.C k74 w A l.length l) (hc : l.length ≤ c) (hb1 : w.heap[b1]? = some (.cells #[.string a1] 9 (0, 0))) (hb2 : w.heap[b2]? = some (.cells #[.string a2] 9 (0, 0))) (h : ideal_find_66.f l a1 a2 = some (r1, r2, r3, r4)) :
    Calls Try.prog 65 #[.slice A l.length c, .func (.func 66) #[] #[.pointer (some ⟨b1, 0, none⟩), .pointer (some ⟨b2, 0, none⟩)]] w fun e w' => e = .returned (.tuple #[.agg #[.string r1, .string r2, .string r3], .bool r4]) ∧ Below w.heap.size w w' := by
  cases h
  exact find65_calls 66 _ _ A c l w hr hc (Kd.C_max hr) (enters_of Try.func66 (by kernel_rfl) rfl) (fun x W hW => askText_calls x a1 a2 b1 b2 w W hb1 hb2 hW)
def ideal_find_67.f (l : List S74) (a1 a2 : ByteArray) : Option (ByteArray × ByteArray × ByteArray × Bool) :=
  some ((fnd z74 (fun n => decide (n.f0 = a1) && decide (n.f2 = a2)) l).1.f0, (fnd z74 (fun n => decide (n.f0 = a1) && decide (n.f2 = a2)) l).1.f1, (fnd z74 (fun n => decide (n.f0 = a1) && decide (n.f2 = a2)) l).1.f2, (fnd z74 (fun n => decide (n.f0 = a1) && decide (n.f2 = a2)) l).2)
theorem ideal_find_67.calls (A : Option Addr) (c : Nat) (l : List S74) (a1 a2 : ByteArray) (r1 r2 r3 : ByteArray) (r4 : Bool) {b1 b2 : Nat} (w : World) (hr : Kd.C k74 w A l.length l) (hc : l.length ≤ c) (hb1 : w.heap[b1]? = some (.cells #[.string a1] 9 (0, 0))) (hb2 : w.heap[b2]? = some (.cells #[.string a2] 9 (0, 0))) (h : ideal_find_67.f l a1 a2 = some (r1, r2, r3, r4)) :
    Calls Try.prog 65 #[.slice A l.length c, .func (.func 67) #[] #[.pointer (some ⟨b1, 0, none⟩), .pointer (some ⟨b2, 0, none⟩)]] w fun e w' => e = .returned (.tuple #[.agg #[.string r1, .string r2, .string r3], .bool r4]) ∧ Below w.heap.size w w' := by
  cases h
  exact find65_calls 67 _ _ A c l w hr hc (Kd.C_max hr) (enters_of Try.func67 (by kernel_rfl) rfl) (fun x W hW => askCell_calls x a1 a2 b1 b2 w W hb1 hb2 hW)
end Go.Proofs.Ytmkncddbecmlpaa.Pr
end
section
namespace Go.Proofs.Ytmkncddbecmlpaa.Pr
open Go.RowKit Go.Shelf Go.Proofs.Ytmkncddbecmlpaa.XB Go.Proofs.YtmkncddbecmlpaaW.PrintWords Go.Proofs.YtmkncddbecmlpaaW.PrintLast Go.Proofs.YtmkncddbecmlpaaW.PrintMore
attribute [local go_sem] Oper.semAt_some
set_option linter.unusedVariables false
theorem eqA97 (d : Nat) (w : World) (x0 y0 : ByteArray) (x1 y1 : ByteArray) :
  (Op.equalIn (d + 2) 97 (.agg #[.string x0, .string x1]) (.agg #[.string y0, .string y1])).run Try.prog w = .ok (x0.toList == y0.toList && (x1.toList == y1.toList)) w := by
  refine eqA_of Try.underlying97 (by kernel_rfl) ?_
  refine eqf_cons (by rfl) (by go_simp; rfl) (by go_simp; rfl) (by go_simp) ?_
  exact eqf_last (by rfl) (by go_simp; rfl) (by go_simp; rfl) (by go_simp)
def pairV (p : ByteArray × ByteArray) : Value := .agg #[.string p.1, .string p.2]
theorem pair_eq (p q : ByteArray × ByteArray) : (p.1.toList == q.1.toList && (p.2.toList == q.2.toList)) = decide (p = q) := by
  have h : ∀ a b : ByteArray, a.toList = b.toList ↔ a = b := fun a b => by
    rw [ByteArray.toList_eq, ByteArray.toList_eq]
    constructor
    · intro h
      obtain ⟨⟨x⟩⟩ := a
      obtain ⟨⟨y⟩⟩ := b
      simp at h
      rw [h]
    · rintro rfl; rfl
  obtain ⟨a, b⟩ := p
  obtain ⟨c, d⟩ := q
  by_cases h1 : a = c <;> by_cases h2 : b = d <;> simp [h, h1, h2]
theorem ask_pair (w : World) (x : ByteArray × ByteArray) : ∀ (xs : List (ByteArray × ByteArray)) (es : List MapEntry) (i : Nat), es.map (·.key) = xs.map pairV → (∀ e ∈ es, e.val = .agg #[]) →
    (x ∈ xs ∧ ∃ j, (Instr.findAsking 97 (pairV x) es i).run Try.prog w = .ok (some (j, .agg #[])) w) ∨ (x ∉ xs ∧ (Instr.findAsking 97 (pairV x) es i).run Try.prog w = .ok none w)
  | [], [], i, _, _ => .inr ⟨by simp, rfl⟩
  | [], _ :: _, _, h, _ => by simp at h
  | _ :: _, [], _, h, _ => by simp at h
  | y :: ys, e :: es, i, h, hv => by
    simp only [List.map_cons, List.cons.injEq] at h
    obtain ⟨hk, hr⟩ := h
    have he : (Op.equal 97 (pairV x) e.key).run Try.prog w = .ok (decide (x = y)) w := by
      rw [hk, ← pair_eq]
      exact eqA97 _ w _ _ _ _
    by_cases hxy : x = y
    · subst hxy
      have he' : (Op.equal 97 (pairV x) e.key).run Try.prog w = .ok true w := by rw [he]; simp
      refine .inl ⟨by simp, i, ?_⟩
      simp [Instr.findAsking, he', hv e (by simp), Result.andThen]
    · rcases ask_pair w x ys es (i + 1) hr (fun e' he => hv e' (by simp [he])) with ⟨hm, j, hj⟩ | ⟨hm, hj⟩
      · exact .inl ⟨by simp [hm], j, by simp [Instr.findAsking, he, hxy, hj, Result.andThen]⟩
      · exact .inr ⟨by simp [hm, hxy], by simp [Instr.findAsking, he, hxy, hj, Result.andThen]⟩
theorem keys_pair : Keys Try.prog 97 pairV where
  check x e w := by
    rw [show (10000 : Nat) = 9998 + 1 + 1 from rfl]
    have hs : ∀ s : ByteArray, (Instr.checkKey e (9998 + 1) 9 (.string s)).run Try.prog w = .ok () w := fun s => by
      rw [Instr.checkKey]
      simp [run_underlying Try.underlying9, Result.andThen]
    rw [Instr.checkKey]
    simp [run_underlying Try.underlying97, Result.andThen, pairV]
    have p0 : (part 9 #[.string x.1, .string x.2] 0).run Try.prog w = .ok (.string x.1) w := by go_simp
    have p1 : (part 9 #[.string x.1, .string x.2] 1).run Try.prog w = .ok (.string x.2) w := by go_simp
    rw [p0]
    simp only []
    rw [hs]
    simp only []
    rw [p1]
    simp only []
    exact hs _
  find x xs es w h1 h2 := by
    have hf : (Instr.findKey 97 (pairV x) es).run Try.prog w = (Instr.findAsking 97 (pairV x) es).run Try.prog w := by
      cases es with
      | nil => simp [Instr.findKey, Instr.findNow, Instr.findAsking, run_underlying Try.underlying97, Result.andThen]
      | cons e es => simp [Instr.findKey, Instr.findNow, Instr.sameNow, run_underlying Try.underlying97, Result.andThen]
    rw [hf]
    exact ask_pair w x xs es 0 h1 h2
end Go.Proofs.Ytmkncddbecmlpaa.Pr
end
section
set_option linter.unusedVariables false
namespace Go.Proofs.Ytmkncddbecmlpaa.XB
open Go.RowKit Go.Shelf Go.Proofs.YtmkncddbecmlpaaW.PrintWords
variable {F : Fence} {n : Nat} {P : Program}
theorem wpIn_rangeFunc_box {g : Operand} {ps : Array Tmp} {assign body : Code} {Q : Exit → Act → World → Prop} {a : Act} {w : World}
    (hro : F.round = none) (h1 : 1 ≤ n) {gf : Nat} {lb : Array Value} (hg : a.eval g = .func (.func gf) #[] lb) (hFg : F.fn gf) (eg : ∀ args w, (callFunc gf args).run P w = .ok (.enter gf args) w)
    {vals : Nat → Array Value} {N : Nat} {Start : World → Prop} {Tch Kp : World → World → Prop} (hseq : IterSeq F (n - 1) P gf lb vals N Start Tch Kp)
    (hStart : OwnW w.heap.size Start) (hs0 : Start w) (hT : ∀ A B, Tch A B → KeepsFrom w.heap.size A B)
    (hKt : ∀ {A B C : World}, Kp A B → Kp B C → Kp A C) (hKb : ∀ (W : World) (l : Nat) (o o' : Obj), w.heap.size ≤ l → W.heap[l]? = some o → o.isCells = false → Kp W (W.putObj l o')) (hps : ∀ k, (vals k).size = ps.size)
    (I : Nat → World → Prop) (Ix : Code → Nat → World → Prop) (hI : ∀ k, OwnW w.heap.size (I k)) (hIx : ∀ c k, OwnW w.heap.size (Ix c k))
    (hIT : ∀ k A B, I k A → Tch A B → I k B) (hIxT : ∀ c k A B, Ix c k A → Tch A B → Ix c k B) (h0 : I 0 w) (a₁ : Nat → Nat → Act)
    (Jb : Nat → Nat → World → Prop) (hJb : ∀ k g, OwnW w.heap.size (Jb k g))
    (hassign : ∀ (l k : Nat) (W : World) (K : Act → World → Prop), I k W → k < N → (∀ g W1, Jb k g W1 → KeepsFrom w.heap.size W W1 → Kp W W1 → K (a₁ k g) W1) →
      assign.wpIn (F.inRound l) (n - 1 - 1) P (Exit.then K (fun _ _ _ => False)) { tmps := (ps.zip (vals k)).foldl (fun t (p, v) => t.setIfInBounds p v) a.tmps, defers := [] } W)
    (hbody : ∀ (l k g : Nat) (W : World), Jb k g W → k < N → body.wpIn (F.inRound l) (n - 1 - 1) P (seqPost w.heap.size Kp I Ix (k + 1) W) (a₁ k g) W)
    (hdone : ∀ (D : Nat) (W : World), w.heap.size ≤ D → I N W → W.heap[D]? = some (.deferred (some [])) → Q .normal { a with defers := { target := .collected D, args := #[] } :: a.defers } W)
    (hstop : ∀ (D : Nat) (c : Code) (k : Nat) (W : World), w.heap.size ≤ D → k ≤ N → Ix c k W → W.heap[D]? = some (.deferred (some [])) → c.wpIn F n P Q { a with defers := { target := .collected D, args := #[] } :: a.defers } W) :
    (Code.rangeFunc g ps assign body).wpIn F n P Q a w := by
  refine wpIn_rangeFunc ?_
  intro fn hfn
  rw [hro]
  obtain ⟨rec, hrec⟩ : ∃ rec : LoopState → Option Code → Loop, rec = fun st pe => { state := st, pending := pe, fn, tmps := a.tmps, params := ps, assign, body, defers := w.heap.size } := ⟨_, rfl⟩
  obtain ⟨W1, hW1⟩ : ∃ W1, (w.alloc (.deferred (some []))).alloc (.loop (rec .ready none)) = W1 := ⟨_, rfl⟩
  have hL1 : W1.heap[w.heap.size + 1]? = some (.loop (rec .ready none)) := by
    rw [← hW1]; have := World.alloc_heap_new (w.alloc (.deferred (some []))) (.loop (rec .ready none)); rwa [World.size_alloc] at this
  have hK1 : W1.heap[w.heap.size]? = some (.deferred (some [])) := by
    rw [← hW1]; exact (Below.heap_alloc _ _ _ (by simp)).trans (World.alloc_heap_new w _)
  have hI1 : I 0 W1 := by rw [← hW1]; exact (hI 0).alloc _ ((hI 0).alloc _ h0)
  have hS1 : Start W1 := by rw [← hW1]; exact hStart.alloc _ (hStart.alloc _ hs0)
  refine ⟨w.heap.size + 1, [{ target := .collected w.heap.size, args := #[] }], W1, { target := .fn (.func gf) lb, args := #[.func (.yield (w.heap.size + 1)) #[] #[]] }, W1, gf,
    #[.func (.yield (w.heap.size + 1)) #[] #[]] ++ lb, W1, ?_, ?_, ?_, ?_, fun _ => h1, ?_⟩
  · rw [← hW1, hrec]; exact run_enterLoop_outer _ _ _ _ _
  · simp only [resolve, hg]
    simp [go_sem]
  · intro f' hf'; simp [Target.leads] at hf'; subst hf'; exact hFg
  · simp [invoke, go_sem, eg]
  · refine (hseq (w.heap.size + 1)
      (fun k W => I k W ∧ W.heap[w.heap.size + 1]? = some (.loop (rec .ready none)) ∧ W.heap[w.heap.size]? = some (.deferred (some [])))
      (fun k W => ∃ c, Ix c k W ∧ W.heap[w.heap.size + 1]? = some (.loop (rec .done (some c))) ∧ W.heap[w.heap.size]? = some (.deferred (some [])))
      W1 hS1
      (fun k A B hs ht => ⟨hIT k A B hs.1 ht, (hT A B ht).same _ _ (by omega) hs.2.1 rfl, (hT A B ht).same _ _ (Nat.le_refl _) hs.2.2 rfl⟩)
      (fun k A B hs ht => by
        obtain ⟨c, hc, hl, hk⟩ := hs
        exact ⟨c, hIxT c k A B hc ht, (hT A B ht).same _ _ (by omega) hl rfl, (hT A B ht).same _ _ (Nat.le_refl _) hk rfl⟩)
      ?_ ⟨hI1, hL1, hK1⟩).mono ?_
    · rintro k W0 ⟨hi0, hl0, hk0⟩ hlen
      have hy := run_yield (P := P) (args := vals k) hl0 (by rw [hrec]; exact hps k)
      rw [hrec] at hy
      refine ⟨fn, _, assign, body, hy, roundIn_of_wpIn hfn (hassign _ k W0 _ hi0 hlen (fun g W hJ hkf hkp => ?_))⟩
      have hl : W.heap[w.heap.size + 1]? = some (.loop (rec .ready none)) := hkf.same _ _ (by omega) hl0 rfl
      have hk : W.heap[w.heap.size]? = some (.deferred (some [])) := hkf.same _ _ (Nat.le_refl _) hk0 rfl
      refine ⟨_, run_beginRound hl (by rw [hrec]), ?_⟩
      have hlt : w.heap.size + 1 < W.heap.size := (Array.getElem?_eq_some_iff.1 hl).1
      have hl2 : (W.putObj (w.heap.size + 1) (.loop { rec .ready none with state := .busy })).heap[w.heap.size + 1]? = some (.loop { rec .ready none with state := .busy }) := World.putObj_heap_same hlt
      have hk2 : (W.putObj (w.heap.size + 1) (.loop { rec .ready none with state := .busy })).heap[w.heap.size]? = some (.deferred (some [])) := (World.putObj_heap_other (by omega)).trans hk
      have hw2 : Kp W0 (W.putObj (w.heap.size + 1) (.loop { rec .ready none with state := .busy })) := hKt hkp (hKb _ _ _ _ (by omega) hl rfl)
      refine wpIn_mono (hbody _ k g _ ((hJb k g).putObj _ hJ (by omega) hl rfl) hlen) ?_
      have fin : ∀ (jump : Option Code) (W3 : World), KeepsFrom w.heap.size (W.putObj (w.heap.size + 1) (.loop { rec .ready none with state := .busy })) W3 →
          (Instr.endRound (w.heap.size + 1) jump).run P W3 = .ok (.bool jump.isNone) (W3.putObj (w.heap.size + 1) (.loop (rec (if jump.isNone then .ready else .done) jump))) ∧
          W3.heap[w.heap.size + 1]? = some (.loop { rec .ready none with state := .busy }) ∧
          (W3.putObj (w.heap.size + 1) (.loop (rec (if jump.isNone then .ready else .done) jump))).heap[w.heap.size + 1]? = some (.loop (rec (if jump.isNone then .ready else .done) jump)) ∧
          (W3.putObj (w.heap.size + 1) (.loop (rec (if jump.isNone then .ready else .done) jump))).heap[w.heap.size]? = some (.deferred (some [])) := fun jump W3 hk3 => by
        have hl3 := hk3.same _ _ (by omega) hl2 rfl
        have := run_endRound (P := P) jump hl3
        rw [hrec] at this ⊢
        exact ⟨this, by rw [hrec] at hl3; exact hl3, World.putObj_heap_same (Array.getElem?_eq_some_iff.1 hl3).1, (World.putObj_heap_other (by omega)).trans (hk3.same _ _ (Nat.le_refl _) hk2 rfl)⟩
      rintro e a3 W3 hp
      cases e with
      | normal =>
        obtain ⟨hk3, hkp3, hi3⟩ := hp
        obtain ⟨hr, hl3, hl4, hk4⟩ := fin none W3 hk3
        exact ⟨_, _, hr, .inl ⟨rfl, ⟨(hI _).putObj _ hi3 (by omega) hl3 rfl, hl4, hk4⟩, hKt (hKt hw2 hkp3) (hKb _ _ _ _ (by omega) hl3 rfl)⟩⟩
      | ret =>
        obtain ⟨hk3, hi3⟩ := hp
        obtain ⟨hr, hl3, hl4, hk4⟩ := fin (some .ret) W3 hk3
        exact ⟨_, _, hr, .inr ⟨rfl, .ret, (hIx _ _).putObj _ hi3 (by omega) hl3 rfl, hl4, hk4⟩⟩
      | exit id =>
        obtain ⟨hk3, hi3⟩ := hp
        obtain ⟨hr, hl3, hl4, hk4⟩ := fin (some (.exit id)) W3 hk3
        exact ⟨_, _, hr, .inr ⟨rfl, .exit id, (hIx _ _).putObj _ hi3 (by omega) hl3 rfl, hl4, hk4⟩⟩
      | goto t =>
        obtain ⟨hk3, hi3⟩ := hp
        obtain ⟨hr, hl3, hl4, hk4⟩ := fin (some (.goto t)) W3 hk3
        exact ⟨_, _, hr, .inr ⟨rfl, .goto t, (hIx _ _).putObj _ hi3 (by omega) hl3 rfl, hl4, hk4⟩⟩
      | panic ch => exact hp.elim
      | outgrown => exact hp.elim
    · rintro e W2 ⟨⟨v, rfl⟩, (⟨hi, hl, hk⟩ | ⟨k, hkN, c, hi, hl, hk⟩)⟩
      · exact ⟨none, _, by have := run_endLoop (P := P) hl (by rw [hrec]; simp); rw [hrec] at this; exact this, hdone _ _ (Nat.le_refl _) ((hI _).putObj _ hi (by omega) hl rfl) ((World.putObj_heap_other (by omega)).trans hk)⟩
      · exact ⟨some c, _, by have := run_endLoop (P := P) hl (by rw [hrec]; simp); rw [hrec] at this; exact this, hstop _ c k _ (Nat.le_refl _) hkN ((hIx c k).putObj _ hi (by omega) hl rfl) ((World.putObj_heap_other (by omega)).trans hk)⟩
end Go.Proofs.Ytmkncddbecmlpaa.XB
end
section
namespace Go.Proofs.Ytmkncddbecmlpaa.Pr
open Go.RowKit Go.Shelf Go.Proofs.Ytmkncddbecmlpaa.XB Go.Proofs.YtmkncddbecmlpaaW.PrintWords
attribute [local go_sem] Oper.semAt_some run_makeMap Result.andThen_ok
set_option linter.unusedVariables false
set_option maxRecDepth 100000 in
set_option maxHeartbeats 4000000 in
theorem twice97_calls (gf : Nat) (lb : Array Value) (vals : Nat → ByteArray × ByteArray) (N : Nat) (w : World) (eg : ∀ args w, (callFunc gf args).run Try.prog w = .ok (.enter gf args) w)
    (hseq : IterSeq Fence.wide 8 Try.prog gf lb (fun k => #[pairV (vals k)]) N (fun W => Below w.heap.size w W) (fun A B => Below A.heap.size A B) (fun A B => Below w.heap.size A B)) :
    Calls Try.prog 62 #[.func (.func gf) #[] lb] w fun e w' => e = .returned (.bool (dup (told vals N))) ∧ Below w.heap.size w w' := by
  refine (callsIn_wide (n := 9)).1 (callsIn_of_wp_marks Try.func62 rfl trivial ?_ rfl)
  refine XB.QM_wp ?_
  simp only [Try.ntmps62, List.size_toArray, List.length_cons, List.length_nil, Nat.reduceAdd, Nat.reduceSub, Array.replicate_succ, Array.replicate_zero, List.push_toArray, List.append_toArray, List.nil_append, List.cons_append]
  go_wp2
  have hz : ∀ w : World, (zeroValue 110).run Try.prog w = .ok (.agg #[]) w := fun w => by rfl
  have hkey : Keys Try.prog 97 pairV := keys_pair
  generalize hW : ((w.alloc (.cells #[.bool false] 4)).alloc (.map #[] 0)).alloc (.cells #[.map (some (w.heap.size + 1))] 113) = W
  have F2 : W.heap[w.heap.size]? = some (.cells #[.bool false] 4 (0, 0)) := by rw [← hW]; exact bkA (bkA (heap_alloc_new _ _) _) _
  have FM : SetIs pairV W (w.heap.size + 1) (told vals 0) := ⟨#[], 0, by rw [← hW]; exact bkA (by simpa using heap_alloc_new (w.alloc (.cells #[.bool false] 4)) (.map #[] 0)) _, rfl, by simp⟩
  have F3 : W.heap[w.heap.size + 1 + 1]? = some (.cells #[.map (some (w.heap.size + 1))] 113 (0, 0)) := by rw [← hW]; simpa using heap_alloc_new ((w.alloc (.cells #[.bool false] 4)).alloc (.map #[] 0)) (.cells #[.map (some (w.heap.size + 1))] 113)
  have FB : Below w.heap.size w W := by rw [← hW]; exact below_alloc (below_alloc (below_alloc (Below.refl _ _) _) _) _
  clear hW
  have hml : w.heap.size + 1 < W.heap.size := FM.lt
  refine wpIn_wide.1 (XB.wpIn_rangeFunc_box (n := 9) rfl (by omega) (gf := gf) (lb := lb) rfl trivial eg hseq (OwnW.below (Nat.le_refl _) FB.size) FB (fun A B h => keeps_below h) (fun {A B C} h k => below_trans h k) (fun W_ l o o' hl ho _ => below_put o' (Nat.le_trans FB.size hl) (blk_lt ho)) (fun _ => rfl)
    (fun k W' => (told vals k).Nodup ∧ SetIs pairV W' (w.heap.size + 1) (told vals k) ∧ W'.heap[w.heap.size]? = some (.cells #[.bool false] 4 (0, 0)) ∧ W'.heap[w.heap.size + 1 + 1]? = some (.cells #[.map (some (w.heap.size + 1))] 113 (0, 0)) ∧ Below w.heap.size w W')
    (fun c k W' => c = .ret ∧ ¬ (told vals N).Nodup ∧ W'.heap[w.heap.size]? = some (.cells #[.bool true] 4 (0, 0)) ∧ Below w.heap.size w W')
    (fun k => .and (.pure _) (.and (OwnW.set _ hml _) (.and (.blk _ _ _ _) (.and (.blk _ _ _ _) (.below (Nat.le_refl _) FB.size)))))
    (fun c k => .and (.pure _) (.and (.pure _) (.and (.blk _ _ _ _) (.below (Nat.le_refl _) FB.size))))
    (fun k A B h hT => ⟨h.1, h.2.1.same (hT.block _ h.2.1.lt), blk_same h.2.2.1 hT, blk_same h.2.2.2.1 hT, below_step h.2.2.2.2 hT⟩)
    (fun c k A B h hT => ⟨h.1, h.2.1, blk_same h.2.2.1 hT, below_step h.2.2.2 hT⟩)
    ⟨List.nodup_nil, FM, F2, F3, FB⟩ ?a1
    (fun k g W' => ((told vals k).Nodup ∧ SetIs pairV W' (w.heap.size + 1) (told vals k) ∧ W'.heap[w.heap.size]? = some (.cells #[.bool false] 4 (0, 0)) ∧ W'.heap[w.heap.size + 1 + 1]? = some (.cells #[.map (some (w.heap.size + 1))] 113 (0, 0)) ∧ Below w.heap.size w W') ∧ W'.heap[g]? = some (.cells #[.string (vals k).1, .string (vals k).2] 97 (0, 0)))
    (fun k g => .and (.and (.pure _) (.and (OwnW.set _ hml _) (.and (.blk _ _ _ _) (.and (.blk _ _ _ _) (.below (Nat.le_refl _) FB.size))))) (.blk _ _ _ _)) ?assign ?body ?done ?stop)
  case assign =>
    rintro l k W1 K ⟨hd, hS, G2, G3, GB⟩ hk hK
    obtain ⟨g, hg⟩ : ∃ g, W1.heap.size = g := ⟨_, rfl⟩
    have hJ := hK g (W1.alloc (.cells #[.string (vals k).1, .string (vals k).2] 97)) ⟨⟨hd, hS.same ((Below.alloc (Below.refl W1.heap.size W1) (Nat.le_refl _) _).block _ hS.lt), bkA G2 _, bkA G3 _, below_alloc GB _⟩, by rw [← hg]; exact heap_alloc_new _ _⟩ (XB.keeps_alloc (KeepsFrom.refl _ _) _) (Below.alloc (Below.refl _ _) GB.size _)
    simp only [pairV]
    gi_wp2
    exact hJ
  case body =>
    rintro l k g W' ⟨⟨hd, hS, G2, G3, GB⟩, GP⟩ hk
    have cp0 := (blk_cell GP 0).trans rfl
    have cp1 := (blk_cell GP 1).trans rfl
    have c3 := (blk_cell G3 0).trans rfl
    gi_wp2_with fail
    have hlook := hS.look hkey Try.underlying113 (hz W') (vals k)
    by_cases hm : vals k ∈ told vals k
    · simp only [hm, decide_true] at hlook
      simp only [pairV] at hlook
      rw [hlook]
      simp only [Result.andThen_ok]
      have hk' := Lib.hid (told_dup hm N (by omega))
      have HG2 := Lib.hid G2
      have HGB := Lib.hid GB
      have c2 : ∀ o, (W'.alloc o).cell? ⟨w.heap.size, 0, none⟩ = some (.bool false) := fun o => (blk_cell (bkA G2 o) 0).trans rfl
      have d2 : ∀ o, (W'.alloc o).frozen? ⟨w.heap.size, 0, none⟩ = false := fun o => blk_frozen (bkA G2 o) 0
      clear hd hS G2 G3 GB hlook hm
      gi_wp2
      refine ⟨?_, rfl, hk'.out, ?_, ?_⟩
      · (repeat (first | with_reducible exact ((KeepsFrom.refl W.heap.size W')) | with_reducible refine XB.keeps_drew ?_ | with_reducible refine XB.keeps_alloc ?_ _ | with_reducible refine XB.keeps_set ?_ _ _))
      · (repeat (first | with_reducible exact (HG2.out) | with_reducible refine XB.bkD ?_ | with_reducible refine bkA ?_ _ | with_reducible refine blk_far ?_ (by first | assumption | (refine Ne.symm ?_; assumption)) _ | with_reducible apply XB.put10 | with_reducible apply XB.put20 | with_reducible apply XB.put21 | with_reducible apply XB.put30 | with_reducible apply XB.put31 | with_reducible apply XB.put32 | with_reducible apply XB.put40 | with_reducible apply XB.put41 | with_reducible apply XB.put42 | with_reducible apply XB.put43))
      · have hle := Nat.le_refl w.heap.size
        (repeat (first | with_reducible exact (HGB.out) | with_reducible refine below_drew ?_ | with_reducible refine below_alloc ?_ _ | with_reducible refine below_set ?_ (by first | assumption | exact Aside0.out (by assumption))))
    · simp only [hm, decide_false] at hlook
      simp only [pairV] at hlook
      rw [hlook]
      simp only [Result.andThen_ok]
      have cp0' : ∀ o, (W'.alloc o).cell? ⟨g, 0, none⟩ = some (.string (vals k).1) := fun o => (blk_cell (bkA GP o) 0).trans rfl
      have cp1' : ∀ o, (W'.alloc o).cell? ⟨g, 1, none⟩ = some (.string (vals k).2) := fun o => (blk_cell (bkA GP o) 1).trans rfl
      have c3' : ∀ o, (W'.alloc o).cell? ⟨w.heap.size + 1 + 1, 0, none⟩ = some (.map (some (w.heap.size + 1))) := fun o => (blk_cell (bkA G3 o) 0).trans rfl
      have hput : ∀ o, ∃ o' : Obj, (Instr.mapUpdate 113 (.map (some (w.heap.size + 1))) (pairV (vals k)) (.agg #[])).run Try.prog (W'.alloc o) = .ok () ((W'.alloc o).putObj (w.heap.size + 1) o') ∧ o'.isCells = false ∧ SetIs pairV ((W'.alloc o).putObj (w.heap.size + 1) o') (w.heap.size + 1) (told vals k ++ [vals k]) :=
        fun o => (hS.same ((Below.alloc (Below.refl W'.heap.size W') (Nat.le_refl _) o).block _ hS.lt)).put hkey Try.underlying113 (vals k) hm
      have HL := Lib.hid hS.lt
      have HG2 := Lib.hid G2; have HG3 := Lib.hid G3; have HGB := Lib.hid GB; have HD := Lib.hid (told_nodup hd hm); have HP := Lib.hid hput
      clear hd hS G2 G3 GB hlook hm hput
      gi_wp2
      obtain ⟨o', hrun, ho', hS'⟩ := HP.out (.cells #[] 110)
      simp only [pairV] at hrun
      rw [hrun]
      simp only [Result.andThen_ok]
      clear hrun
      have hlt := Lib.hid hml
      clear hml
      gi_wp2
      have hne2 : w.heap.size ≠ w.heap.size + 1 := by omega
      have hne3 : w.heap.size + 1 + 1 ≠ w.heap.size + 1 := by omega
      have HB2 := below_alloc HGB.out (.cells #[] 110)
      refine ⟨⟨?_, ?_⟩, ?_, HD.out, ?_, ?_, ?_, ?_⟩
      · rw [World.putObj_size, World.size_alloc]; omega
      · intro k_ o_ h1 h2 h3
        have := hlt.out
        rw [World.putObj_heap_other (by omega)]
        exact bkA h2 _
      · exact below_trans (Below.alloc (Below.refl _ W') (by have := HGB.out.size; omega) _) (below_put o' (by omega) (by rw [World.size_alloc]; have := HL.out; omega))
      · rw [told_succ]; exact hS'
      · rw [World.putObj_heap_other hne2]; exact bkA HG2.out _
      · rw [World.putObj_heap_other hne3]; exact bkA HG3.out _
      · exact below_trans HB2 (below_put o' (by omega) (by rw [World.size_alloc]; have := HL.out; omega))
  case done =>
    rintro D W' hD ⟨hd, hS, G2, G3, GB⟩ hDD
    rename_i K_ hK_
    refine hK_ _ _ ?_
    clear hK_
    have c2 := (blk_cell G2 0).trans rfl
    have d2 := blk_frozen G2 0
    have hr : dup (told vals N) = false := by unfold dup; rw [decide_eq_true hd]; rfl
    go_wp2
    change XB.QM _ _ _ _ _ _ _
    have hlt : w.heap.size ≠ D := Nat.ne_of_lt (Nat.lt_of_lt_of_le (blk_lt F2) hD)
    have X2 : (W'.setCell ⟨w.heap.size, 0, none⟩ (.bool false)).heap[w.heap.size]? = some (.cells #[.bool false] 4 (0, 0)) := XB.put10 G2 _
    have XD : (W'.setCell ⟨w.heap.size, 0, none⟩ (.bool false)).heap[D]? = some (.deferred (some [])) := (keeps_set (KeepsFrom.refl W.heap.size W') _ _).same D _ hD hDD rfl
    have P2 := (XB.OwnW.blk (B := W.heap.size) _ _ _ _).putObj (.deferred none) X2 hD XD rfl
    refine XB.QM_ret (.inl rfl) XD (XB.resultsX_single rfl (.one _ _ _ _ _ rfl P2 rfl rfl .nil)) ?_
    exact ⟨by rw [hr], (XB.OwnW.below (Nat.le_refl _) FB.size).putObj _ (below_set GB (Nat.le_refl _)) hD XD rfl⟩
  case stop =>
    rintro D c k W' hD hk ⟨rfl, hn, G2, GB⟩ hDD
    have hr : dup (told vals N) = true := by unfold dup; rw [decide_eq_false hn]; rfl
    refine wpIn_wide.2 ?_
    go_wp2
    change XB.QM _ _ _ _ _ _ _
    have P2 := (XB.OwnW.blk (B := W.heap.size) _ _ _ _).putObj (.deferred none) G2 hD hDD rfl
    refine XB.QM_ret (.inl rfl) hDD (XB.resultsX_single rfl (.one _ _ _ _ _ rfl P2 rfl rfl .nil)) ?_
    exact ⟨by rw [hr], (XB.OwnW.below (Nat.le_refl _) FB.size).putObj _ GB hD hDD rfl⟩
end Go.Proofs.Ytmkncddbecmlpaa.Pr
end
section
namespace Go.Proofs.Ytmkncddbecmlpaa.Pr
open Go.RowKit Go.Shelf Go.Proofs.Ytmkncddbecmlpaa.XB Go.Proofs.YtmkncddbecmlpaaW.PrintWords
attribute [local go_sem] Oper.semAt_some
set_option linter.unusedVariables false
set_option maxHeartbeats 1000000 in
theorem names_calls (fo : Nat) (s : ByteArray) (i : Int) (v2 v3 : Value) (bo : Bool) (w : World) (o2 : v2.oneCell' = true) (o3 : v3.oneCell' = true) :
    Calls Try.prog 60 #[.agg #[.string s, .int .i64 i, v2, v3, .bool bo], .func (.func fo) #[] #[]] w fun e w' => e = .returned (.func (.func 75) #[] #[.pointer (some ⟨w.heap.size, 0, none⟩), .pointer (some ⟨w.heap.size + 1, 0, none⟩)]) ∧
      w' = (w.alloc (.cells #[.string s, .int .i64 i, v2, v3, .bool bo] 50)).alloc (.cells #[.func (.func fo) #[] #[]] 94) := by
  go_enter Try.func60, Try.ntmps60
  go_wp2
  go_ret
  exact ⟨rfl, rfl⟩
set_option maxHeartbeats 1000000 in
theorem cells_calls (fo : Nat) (s : ByteArray) (i : Int) (v2 v3 : Value) (bo : Bool) (w : World) (o2 : v2.oneCell' = true) (o3 : v3.oneCell' = true) :
    Calls Try.prog 63 #[.agg #[.string s, .int .i64 i, v2, v3, .bool bo], .func (.func fo) #[] #[]] w fun e w' => e = .returned (.func (.func 76) #[] #[.pointer (some ⟨w.heap.size, 0, none⟩), .pointer (some ⟨w.heap.size + 1, 0, none⟩)]) ∧
      w' = (w.alloc (.cells #[.string s, .int .i64 i, v2, v3, .bool bo] 50)).alloc (.cells #[.func (.func fo) #[] #[]] 101) := by
  go_enter Try.func63, Try.ntmps63
  go_wp2
  go_ret
  exact ⟨rfl, rfl⟩
theorem out_calls (x : S72) (w : World) : Calls Try.prog 72 #[.agg #[.string x.f0, .string x.f1]] w fun e w' => e = .returned (.string x.f1) ∧ Below w.heap.size w w' := by
  go_enter Try.func72, Try.ntmps72
  go_wp2
  go_ret
  exact ⟨rfl, below_alloc (Below.refl _ _) _⟩
theorem in_calls (x : S72) (w : World) : Calls Try.prog 61 #[.agg #[.string x.f0, .string x.f1]] w fun e w' => e = .returned (.string x.f0) ∧ Below w.heap.size w w' := by
  go_enter Try.func61, Try.ntmps61
  go_wp2
  go_ret
  exact ⟨rfl, below_alloc (Below.refl _ _) _⟩
set_option maxRecDepth 100000 in
theorem labelCell_calls (x : S74) (w : World) : Calls Try.prog 73 #[.agg #[.string x.f0, .string x.f1, .string x.f2]] w fun e w' => e = .returned (.agg #[.string x.f0, .string x.f2]) ∧ Below w.heap.size w w' := by
  go_enter Try.func73, Try.ntmps73
  go_wp2
  have hb : ∀ o1 o2 : Obj, ((w.alloc o1).alloc o2).heap[w.heap.size + 1]? = some o2 := fun o1 o2 => by simpa using heap_alloc_new (w.alloc o1) o2
  refine bodyPost_ret (XB.resultsX_single rfl (.cell (w.heap.size + 1) 97 #[.string x.f0, .string x.f2] (0, 0) _ rfl (hb _ _) Try.underlying97 rfl rfl .nil)) rfl ?_
  exact ⟨rfl, below_alloc (below_alloc (Below.refl _ _) _) _⟩
set_option maxRecDepth 100000 in
theorem labelText_calls (x : S74) (w : World) : Calls Try.prog 64 #[.agg #[.string x.f0, .string x.f1, .string x.f2]] w fun e w' => e = .returned (.agg #[.string x.f0, .string x.f1]) ∧ Below w.heap.size w w' := by
  go_enter Try.func64, Try.ntmps64
  go_wp2
  have hb : ∀ o1 o2 : Obj, ((w.alloc o1).alloc o2).heap[w.heap.size + 1]? = some o2 := fun o1 o2 => by simpa using heap_alloc_new (w.alloc o1) o2
  refine bodyPost_ret (XB.resultsX_single rfl (.cell (w.heap.size + 1) 97 #[.string x.f0, .string x.f1] (0, 0) _ rfl (hb _ _) Try.underlying97 rfl rfl .nil)) rfl ?_
  exact ⟨rfl, below_alloc (below_alloc (Below.refl _ _) _) _⟩
end Go.Proofs.Ytmkncddbecmlpaa.Pr
end
section
namespace Go.Proofs.Ytmkncddbecmlpaa.Pr
open Go.RowKit Go.Shelf Go.Proofs.Ytmkncddbecmlpaa.XB Go.Proofs.YtmkncddbecmlpaaW.PrintWords
attribute [local go_sem] Oper.semAt_some
set_option linter.unusedVariables false
theorem told_map {κ α : Type} (xs : List α) (d : α) (f : α → κ) (g : Nat → α) (hg : ∀ k, (h : k < xs.length) → g k = xs[k]) : told (fun k => f (g k)) xs.length = xs.map f := by
  refine List.ext_getElem (by simp [told]) ?_
  intro i h1 h2
  simp [told] at h1 ⊢
  rw [hg i h1]
def clashP (ns : List S72) (cs : List S74) : Bool := dup (ns.map fun n => n.f1) || dup (cs.map fun c => (c.f0, c.f2))
def ideal_clash.f (a0_0 : ByteArray) (a0_1 : Int) (l0_2 : List (S72)) (l0_3 : List (S74)) (a0_4 : Bool) : Option (Bool) := some (clashP l0_2 l0_3)
theorem told_names (xs : List S72) (f : S72 → ByteArray) : told (fun k => f (rd_T72 xs k)) xs.length = xs.map f :=
  told_map xs z72 f (fun k => rd_T72 xs k) (fun k h => by
    unfold rd_T72
    simp [h])
theorem told_cells (xs : List S74) (f : S74 → ByteArray × ByteArray) : told (fun k => f (rd_T74 xs k)) xs.length = xs.map f :=
  told_map xs z74 f (fun k => rd_T74 xs k) (fun k h => by
    unfold rd_T74
    simp [h])
set_option maxRecDepth 100000 in
set_option maxHeartbeats 4000000 in
theorem ideal_clash.calls (a0_0 : ByteArray) (a0_1 : Int) (A0_2 : Option Addr) (c0_2 : Nat) (l0_2 : List (S72)) (A0_3 : Option Addr) (c0_3 : Nat) (l0_3 : List (S74)) (a0_4 : Bool) (r : Bool) (w : World) (hr0_2 : Kd.C k72 w A0_2 l0_2.length l0_2) (hc0_2 : l0_2.length ≤ c0_2) (hr0_3 : Kd.C k74 w A0_3 l0_3.length l0_3) (hc0_3 : l0_3.length ≤ c0_3) (h : ideal_clash.f a0_0 a0_1 l0_2 l0_3 a0_4 = some r) :
    Calls Try.prog 52 #[.agg #[.string a0_0, .int .i64 a0_1, .slice A0_2 l0_2.length c0_2, .slice A0_3 l0_3.length c0_3, .bool a0_4]] w fun e w' => e = .returned (.bool r) ∧ Below w.heap.size w w' := by
  cases h
  go_enter Try.func52, Try.ntmps52
  have e75 : ∀ args w, (callFunc 75 args).run Try.prog w = .ok (.enter 75 args) w := enters_of Try.func75 (by kernel_rfl) rfl
  have e76 : ∀ args w, (callFunc 76 args).run Try.prog w = .ok (.enter 76 args) w := enters_of Try.func76 (by kernel_rfl) rfl
  have e72 : ∀ args w, (callFunc 72 args).run Try.prog w = .ok (.enter 72 args) w := enters_of Try.func72 (by kernel_rfl) rfl
  have e73 : ∀ args w, (callFunc 73 args).run Try.prog w = .ok (.enter 73 args) w := enters_of Try.func73 (by kernel_rfl) rfl
  go_wp2_with fail
  refine (names_calls 72 a0_0 a0_1 _ _ a0_4 _ rfl rfl).mono ?_
  rintro e W1 ⟨rfl, hW1⟩
  generalize hU : w.alloc _ = U at hW1
  have HU : Below w.heap.size w U := by rw [← hU]; exact below_alloc (Below.refl _ _) _
  have HU0 : U.heap[w.heap.size]? = some (.cells #[.string a0_0, .int .i64 a0_1, .slice A0_2 l0_2.length c0_2, .slice A0_3 l0_3.length c0_3, .bool a0_4] 50 (0, 0)) := by rw [← hU]; exact heap_alloc_new _ _
  have HW : Below w.heap.size w W1 := by rw [hW1]; exact below_alloc (below_alloc HU _) _
  have B1 : W1.heap[U.heap.size]? = some (.cells #[.string a0_0, .int .i64 a0_1, .slice A0_2 l0_2.length c0_2, .slice A0_3 l0_3.length c0_3, .bool a0_4] 50 (0, 0)) := by rw [hW1]; exact bkA (heap_alloc_new _ _) _
  have B2 : W1.heap[U.heap.size + 1]? = some (.cells #[.func (.func 72) #[] #[]] 94 (0, 0)) := by rw [hW1]; simpa using heap_alloc_new (U.alloc (.cells #[.string a0_0, .int .i64 a0_1, .slice A0_2 l0_2.length c0_2, .slice A0_3 l0_3.length c0_3, .bool a0_4] 50)) (.cells #[.func (.func 72) #[] #[]] 94)
  have B0 : W1.heap[w.heap.size]? = some (.cells #[.string a0_0, .int .i64 a0_1, .slice A0_2 l0_2.length c0_2, .slice A0_3 l0_3.length c0_3, .bool a0_4] 50 (0, 0)) := by rw [hW1]; exact bkA (bkA HU0 _) _
  clear hW1 hU
  have hr2 : Kd.C k72 W1 A0_2 l0_2.length l0_2 := Kd.C_below hr0_2 HW
  have hr3 : Kd.C k74 W1 A0_3 l0_3.length l0_3 := Kd.C_below hr0_3 HW
  have hl2 := Kd.C_max hr0_2
  have hl3 := Kd.C_max hr0_3
  have seq2 := names1_seq 8 (by omega) W1 U.heap.size (U.heap.size + 1) 72 a0_0 a0_1 A0_2 c0_2 (.slice A0_3 l0_3.length c0_3) a0_4 l0_2 (fun n => n.f1) B1 B2 hr2 hc0_2 hl2 out_calls e72
  go_wp2_with fail
  refine (twice9_calls 75 _ _ _ W1 e75 seq2).mono ?_
  rintro e W2 ⟨rfl, hb2⟩
  rw [told_names]
  have HW2 : Below w.heap.size w W2 := below_step HW hb2
  have C0 : W2.heap[w.heap.size]? = some (.cells #[.string a0_0, .int .i64 a0_1, .slice A0_2 l0_2.length c0_2, .slice A0_3 l0_3.length c0_3, .bool a0_4] 50 (0, 0)) := blk_same B0 hb2
  have hr3' := Kd.C_below hr3 hb2
  clear seq2 B1 B2 B0 HU0 HU HW hr2 hr3 hb2 e75 e72 hr0_2 hr0_3
  cases hd : dup (List.map (fun n => n.f1) l0_2)
  · have c0 := (blk_cell C0 0).trans rfl
    have c1 := (blk_cell C0 1).trans rfl
    have c2 := (blk_cell C0 2).trans rfl
    have c3 := (blk_cell C0 3).trans rfl
    have c4 := (blk_cell C0 4).trans rfl
    go_wp2_with fail
    refine (cells_calls 73 a0_0 a0_1 _ _ a0_4 _ rfl rfl).mono ?_
    rintro e W3 ⟨rfl, hW3⟩
    have HW3 : Below w.heap.size w W3 := by rw [hW3]; exact below_alloc (below_alloc HW2 _) _
    have D1 : W3.heap[W2.heap.size]? = some (.cells #[.string a0_0, .int .i64 a0_1, .slice A0_2 l0_2.length c0_2, .slice A0_3 l0_3.length c0_3, .bool a0_4] 50 (0, 0)) := by rw [hW3]; exact bkA (heap_alloc_new _ _) _
    have D2 : W3.heap[W2.heap.size + 1]? = some (.cells #[.func (.func 73) #[] #[]] 101 (0, 0)) := by rw [hW3]; simpa using heap_alloc_new (W2.alloc (.cells #[.string a0_0, .int .i64 a0_1, .slice A0_2 l0_2.length c0_2, .slice A0_3 l0_3.length c0_3, .bool a0_4] 50)) (.cells #[.func (.func 73) #[] #[]] 101)
    have hr4 : Kd.C k74 W3 A0_3 l0_3.length l0_3 := by rw [hW3]; exact Kd.C_alloc (Kd.C_alloc hr3' _) _
    clear hW3
    have seq3 := cells1_seq 8 (by omega) W3 W2.heap.size (W2.heap.size + 1) 73 a0_0 a0_1 (.slice A0_2 l0_2.length c0_2) A0_3 c0_3 a0_4 l0_3 (fun c => (c.f0, c.f2)) D1 D2 hr4 hc0_3 hl3 labelCell_calls e73
    go_wp2_with fail
    refine (twice97_calls 76 _ (fun k => ((rd_T74 l0_3 k).f0, (rd_T74 l0_3 k).f2)) l0_3.length W3 e76 seq3).mono ?_
    rintro e W4 ⟨rfl, hb4⟩
    rw [show told (fun k : Nat => ((rd_T74 l0_3 k).f0, (rd_T74 l0_3 k).f2)) l0_3.length = _ from told_cells l0_3 (fun c => (c.f0, c.f2))]
    go_wp2
    go_ret
    exact ⟨by simp [clashP, hd], below_step HW3 hb4⟩
  · go_wp2
    go_ret
    exact ⟨by simp [clashP, hd], HW2⟩
end Go.Proofs.Ytmkncddbecmlpaa.Pr
end
section
namespace Go.Proofs.Ytmkncddbecmlpaa.Pr
open Go.RowKit Go.Shelf Go.Proofs.Ytmkncddbecmlpaa.XB Go.Proofs.YtmkncddbecmlpaaW.PrintWords Go.Proofs.YtmkncddbecmlpaaW.PrintLast Go.Proofs.YtmkncddbecmlpaaW.PrintMore
attribute [local go_sem] Oper.semAt_some
set_option linter.unusedVariables false
def tapeP (b : ByteArray) (a : Int) : Bool := decide ((b.size : Int) ≤ 65536) && decide (a ≥ 0) && decide (a ≤ (b.size : Int))
theorem tapeP_f (b : ByteArray) (a : Int) : tape_Right.f b a = some (tapeP b a) := by
  unfold tape_Right.f tapeP
  by_cases h1 : (b.size : Int) ≤ 65536 <;> by_cases h2 : a ≥ 0 <;> simp [h1, h2]
theorem two_alloc {U W1 : World} {o1 o2 : Obj} (h : W1 = (U.alloc o1).alloc o2) : Below U.heap.size U W1 ∧ W1.heap[U.heap.size]? = some o1 ∧ W1.heap[U.heap.size + 1]? = some o2 := by
  subst h
  exact ⟨below_alloc (below_alloc (Below.refl _ _) _) _, bkA (heap_alloc_new _ _) _, by simpa using heap_alloc_new (U.alloc o1) o2⟩
def rightP (b : ByteArray) (a : Int) (ns : List S72) (cs : List S74) (cl : Bool) : Bool :=
  tapeP b a && decide (ns.length ≤ 2000 ∧ cs.length ≤ 2000) && !(ns.any oddName) && !(cs.any oddCell) && !(dup (ns.map fun n => n.f0)) && !(dup (cs.map fun c => (c.f0, c.f1))) && (cl == clashP ns cs)
def ideal_Right.f (a0_0 : ByteArray) (a0_1 : Int) (l0_2 : List (S72)) (l0_3 : List (S74)) (a0_4 : Bool) : Option (Bool) := some (rightP a0_0 a0_1 l0_2 l0_3 a0_4)
set_option maxRecDepth 100000 in
set_option maxHeartbeats 8000000 in
theorem ideal_Right.calls (a0_0 : ByteArray) (a0_1 : Int) (A0_2 : Option Addr) (c0_2 : Nat) (l0_2 : List (S72)) (A0_3 : Option Addr) (c0_3 : Nat) (l0_3 : List (S74)) (a0_4 : Bool) (r : Bool) (w : World) (hr0_2 : Kd.C k72 w A0_2 l0_2.length l0_2) (hc0_2 : l0_2.length ≤ c0_2) (hr0_3 : Kd.C k74 w A0_3 l0_3.length l0_3) (hc0_3 : l0_3.length ≤ c0_3) (h : ideal_Right.f a0_0 a0_1 l0_2 l0_3 a0_4 = some r) :
    Calls Try.prog 37 #[.agg #[.string a0_0, .int .i64 a0_1, .slice A0_2 l0_2.length c0_2, .slice A0_3 l0_3.length c0_3, .bool a0_4]] w fun e w' => e = .returned (.bool r) ∧ Below w.heap.size w w' := by
  cases h
  have e55 : ∀ args w, (callFunc 55 args).run Try.prog w = .ok (.enter 55 args) w := enters_of Try.func55 (by kernel_rfl) rfl
  have e56 : ∀ args w, (callFunc 56 args).run Try.prog w = .ok (.enter 56 args) w := enters_of Try.func56 (by kernel_rfl) rfl
  have e75 : ∀ args w, (callFunc 75 args).run Try.prog w = .ok (.enter 75 args) w := enters_of Try.func75 (by kernel_rfl) rfl
  have e76 : ∀ args w, (callFunc 76 args).run Try.prog w = .ok (.enter 76 args) w := enters_of Try.func76 (by kernel_rfl) rfl
  have e61 : ∀ args w, (callFunc 61 args).run Try.prog w = .ok (.enter 61 args) w := enters_of Try.func61 (by kernel_rfl) rfl
  have e64 : ∀ args w, (callFunc 64 args).run Try.prog w = .ok (.enter 64 args) w := enters_of Try.func64 (by kernel_rfl) rfl
  have hl2 := Kd.C_max hr0_2
  have hl3 := Kd.C_max hr0_3
  generalize hP : rightP a0_0 a0_1 l0_2 l0_3 a0_4 = R
  unfold rightP at hP
  go_enter Try.func37, Try.ntmps37
  go_wp2_with fail
  generalize hU : w.alloc _ = W1
  have HW1 : Below w.heap.size w W1 := by rw [← hU]; exact below_alloc (Below.refl _ _) _
  have C1 : W1.heap[w.heap.size]? = some (.cells #[.string a0_0, .int .i64 a0_1, .slice A0_2 l0_2.length c0_2, .slice A0_3 l0_3.length c0_3, .bool a0_4] 50 (0, 0)) := by rw [← hU]; exact heap_alloc_new _ _
  clear hU
  refine (tape_Right.calls a0_0 a0_1 _ W1 (tapeP_f a0_0 a0_1)).mono ?_
  rintro e W2 ⟨rfl, hb⟩
  have HW2 : Below w.heap.size w W2 := below_step HW1 hb
  have C2 := blk_same C1 hb
  clear hb C1 HW1
  cases h1 : tapeP a0_0 a0_1
  · rw [h1] at hP
    simp only [Bool.false_and] at hP
    subst hP
    clear e55 e56 e75 e76 e61 e64
    go_wp2
    go_ret
    exact ⟨rfl, HW2⟩
  rw [h1] at hP
  have c0 := (blk_cell C2 0).trans rfl
  have c1 := (blk_cell C2 1).trans rfl
  have c2 := (blk_cell C2 2).trans rfl
  have c3 := (blk_cell C2 3).trans rfl
  have c4 := (blk_cell C2 4).trans rfl
  by_cases h2 : l0_2.length ≤ 2000 ∧ l0_3.length ≤ 2000
  case neg =>
    simp only [h2, decide_false, Bool.and_false, Bool.false_and] at hP
    subst hP
    clear e55 e56 e75 e76 e61 e64
    have h2' : ¬ (max (l0_2.length : Int) (l0_3.length : Int) ≤ 2000) := by omega
    have h2'' : (max (l0_2.length : Int) (l0_3.length : Int) > 2000) := by omega
    go_wp2 <;> (go_ret; exact ⟨rfl, HW2⟩)
  simp only [h2, decide_true, and_self, Bool.true_and] at hP
  have hr2 := Kd.C_below hr0_2 HW2
  have hr3 := Kd.C_below hr0_3 HW2
  have h21 : (l0_2.length : Int) ≤ 2000 := by omega
  have h22 : (l0_3.length : Int) ≤ 2000 := by omega
  have HP := Lib.hid hP
  clear hP
  (go_wp2_with fail) <;> (
    refine (contains57_calls 55 #[] oddName A0_2 c0_2 l0_2 W2 hr2 hc0_2 hl2 e55 (fun x W _ => oddName_calls x W)).mono ?_
    rintro e W3 ⟨rfl, hb⟩
    have HW3 : Below w.heap.size w W3 := below_step HW2 hb
    have C3 := blk_same C2 hb
    have hr3' := Kd.C_below hr3 hb
    clear hb
    cases h3 : l0_2.any oddName
    case true =>
      have hP := HP.out
      simp only [h3, Bool.not_true, Bool.false_and] at hP
      subst hP
      clear e55 e56 e75 e76 e61 e64
      go_wp2
      go_ret
      exact ⟨rfl, HW3⟩
    have d3 := (blk_cell C3 3).trans rfl
    go_wp2_with fail
    refine (contains58_calls 56 #[] oddCell A0_3 c0_3 l0_3 W3 hr3' hc0_3 hl3 e56 (fun x W _ => oddCell_calls x W)).mono ?_
    rintro e W4 ⟨rfl, hb⟩
    have HW4 : Below w.heap.size w W4 := below_step HW3 hb
    have C4 := blk_same C3 hb
    clear hb
    cases h4 : l0_3.any oddCell
    case true =>
      have hP := HP.out
      simp only [h3, h4, Bool.not_true, Bool.not_false, Bool.false_and, Bool.true_and] at hP
      subst hP
      clear e55 e56 e75 e76 e61 e64
      go_wp2
      go_ret
      exact ⟨rfl, HW4⟩
    have hr2'' := Kd.C_below hr0_2 HW4
    have hr3'' := Kd.C_below hr0_3 HW4
    have f0 := (blk_cell C4 0).trans rfl
    have f1 := (blk_cell C4 1).trans rfl
    have f2 := (blk_cell C4 2).trans rfl
    have f3 := (blk_cell C4 3).trans rfl
    have f4 := (blk_cell C4 4).trans rfl
    go_wp2_with fail
    refine (names_calls 61 a0_0 a0_1 _ _ a0_4 W4 rfl rfl).mono ?_
    rintro e W5 ⟨rfl, hW5⟩
    obtain ⟨hb, B1, B2⟩ := two_alloc hW5
    have HW5 : Below w.heap.size w W5 := below_step HW4 hb
    have seq2 := names1_seq 8 (by omega) W5 W4.heap.size (W4.heap.size + 1) 61 a0_0 a0_1 A0_2 c0_2 (.slice A0_3 l0_3.length c0_3) a0_4 l0_2 (fun n => n.f0) B1 B2 (Kd.C_below hr2'' hb) hc0_2 hl2 in_calls e61
    have C5 := blk_same C4 hb
    clear hW5 hb B1 B2
    go_wp2_with fail
    refine (twice9_calls 75 _ (fun k => (rd_T72 l0_2 k).f0) l0_2.length W5 e75 seq2).mono ?_
    rintro e W6 ⟨rfl, hb⟩
    rw [show told (fun k : Nat => (rd_T72 l0_2 k).f0) l0_2.length = _ from told_names l0_2 (fun n => n.f0)]
    have HW6 : Below w.heap.size w W6 := below_step HW5 hb
    have C6 := blk_same C5 hb
    clear hb seq2 f0 f1 f2 f3 f4
    cases h5 : dup (l0_2.map fun n => n.f0)
    case true =>
      have hP := HP.out
      simp only [h3, h4, h5, Bool.not_true, Bool.not_false, Bool.false_and, Bool.true_and] at hP
      subst hP
      clear e55 e56 e75 e76 e61 e64
      go_wp2
      go_ret
      exact ⟨rfl, HW6⟩
    have f0 := (blk_cell C6 0).trans rfl
    have f1 := (blk_cell C6 1).trans rfl
    have f2 := (blk_cell C6 2).trans rfl
    have f3 := (blk_cell C6 3).trans rfl
    have f4 := (blk_cell C6 4).trans rfl
    go_wp2_with fail
    refine (cells_calls 64 a0_0 a0_1 _ _ a0_4 W6 rfl rfl).mono ?_
    rintro e W7 ⟨rfl, hW7⟩
    obtain ⟨hb, B1, B2⟩ := two_alloc hW7
    have HW7 : Below w.heap.size w W7 := below_step HW6 hb
    have seq3 := cells1_seq 8 (by omega) W7 W6.heap.size (W6.heap.size + 1) 64 a0_0 a0_1 (.slice A0_2 l0_2.length c0_2) A0_3 c0_3 a0_4 l0_3 (fun c => (c.f0, c.f1)) B1 B2 (Kd.C_below hr0_3 HW7) hc0_3 hl3 labelText_calls e64
    have C7 := blk_same C6 hb
    clear hW7 hb B1 B2
    go_wp2_with fail
    refine (twice97_calls 76 _ (fun k => ((rd_T74 l0_3 k).f0, (rd_T74 l0_3 k).f1)) l0_3.length W7 e76 seq3).mono ?_
    rintro e W8 ⟨rfl, hb⟩
    rw [show told (fun k : Nat => ((rd_T74 l0_3 k).f0, (rd_T74 l0_3 k).f1)) l0_3.length = _ from told_cells l0_3 (fun c => (c.f0, c.f1))]
    have HW8 : Below w.heap.size w W8 := below_step HW7 hb
    have C8 := blk_same C7 hb
    clear hb seq3 f0 f1 f2 f3 f4
    cases h6 : dup (l0_3.map fun c => (c.f0, c.f1))
    case true =>
      have hP := HP.out
      simp only [h3, h4, h5, h6, Bool.not_true, Bool.not_false, Bool.false_and, Bool.true_and] at hP
      subst hP
      clear e55 e56 e75 e76 e61 e64
      go_wp2
      go_ret
      exact ⟨rfl, HW8⟩
    clear e55 e56 e75 e76 e61 e64
    go_wp2_with fail
    refine start_ (n := 6) (S := fun w' => w'.cell? ⟨w.heap.size, 0, none⟩ = some (.string a0_0) ∧ w'.cell? ⟨w.heap.size, 1, none⟩ = some (.int .i64 a0_1) ∧ w'.cell? ⟨w.heap.size, 2, none⟩ = some (.slice A0_2 l0_2.length c0_2) ∧ w'.cell? ⟨w.heap.size, 3, none⟩ = some (.slice A0_3 l0_3.length c0_3) ∧ w'.cell? ⟨w.heap.size, 4, none⟩ = some (.bool a0_4)) (ds := []) #[false, false, false, false, false, false] (by kernel_rfl) rfl rfl ⟨(blk_cell C8 0).trans rfl, (blk_cell C8 1).trans rfl, (blk_cell C8 2).trans rfl, (blk_cell C8 3).trans rfl, (blk_cell C8 4).trans rfl⟩ (fun hHeld => ?_)
    have C9 := XB.bkD C8
    have HW9 := below_drew1 HW8
    clear C8
    generalize W8.drew = W9 at C9 HW9 hHeld ⊢
    refine pure_ (i := 0) (N := some 33) (v := ?_) (a' := ?_) #[true, false, false, false, false, false] rfl rfl (by kernel_rfl) (fun _ _ _ h => h) (Or.inl ⟨by rfl, ?_⟩) ?_ ?_
    rotate_left
    · intro w'
      go_simp
      with_reducible rfl
    rotate_left
    · simp only [Act.put, List.setIfInBounds_toArray, List.set_cons_zero, List.set_cons_succ]
      rfl
    refine take_ (i := 1) (N := some 34) (v := ?_) (a' := ?_) #[true, true, false, false, false, false] rfl rfl (by kernel_rfl) (fun _ _ _ h => h) (Or.inl ⟨by rfl, ?_⟩) hHeld ?_ ?_
    rotate_left
    · rintro w' ⟨s0, s1, s2, s3, s4⟩
      go_simp
      with_reducible rfl
    rotate_left
    · simp only [Act.put, List.setIfInBounds_toArray, List.set_cons_zero, List.set_cons_succ]
      rfl
    refine take_ (i := 2) (N := some 35) (v := ?_) (a' := ?_) #[true, true, true, false, false, false] rfl rfl (by kernel_rfl) (fun _ _ _ h => h) (Or.inl ⟨by rfl, ?_⟩) hHeld ?_ ?_
    rotate_left
    · rintro w' ⟨s0, s1, s2, s3, s4⟩
      go_simp
      with_reducible rfl
    rotate_left
    · simp only [Act.put, List.setIfInBounds_toArray, List.set_cons_zero, List.set_cons_succ]
      rfl
    refine one_ (i := 3) (N := some 36) #[true, true, true, true, false, false] rfl rfl (by kernel_rfl) (by decide) (fun K hK => ?_)
    refine goes_ Try.func52 (by kernel_rfl) rfl #[.agg #[.string a0_0, .int .i64 a0_1, .slice A0_2 l0_2.length c0_2, .slice A0_3 l0_3.length c0_3, .bool a0_4]] (by rfl) rfl rfl (by (try simp only [List.map_toArray, List.map_cons, List.map_nil]); rfl) ?_
    refine (ideal_clash.calls a0_0 a0_1 A0_2 c0_2 l0_2 A0_3 c0_3 l0_3 a0_4 _ W9 (Kd.C_below hr0_2 HW9) hc0_2 (Kd.C_below hr0_3 HW9) hc0_3 rfl).mono ?_
    rintro e W10 ⟨rfl, hb⟩
    refine ⟨_, rfl, ?_⟩
    have HW10 : Below w.heap.size w W10 := below_step HW9 hb
    have C10 := blk_same C9 hb
    refine hK.out _ _ ⟨(blk_cell C10 0).trans rfl, (blk_cell C10 1).trans rfl, (blk_cell C10 2).trans rfl, (blk_cell C10 3).trans rfl, (blk_cell C10 4).trans rfl⟩ (fun hHeld => ?_)
    clear hK K
    refine norm_ (a' := ?_) ?_ ?_
    rotate_left
    · show Act.put _ (some 36) _ = _
      simp only [Act.put, List.setIfInBounds_toArray, List.set_cons_zero, List.set_cons_succ]
      rfl
    refine pure_ (i := 4) (N := some 37) (v := ?_) (a' := ?_) #[true, true, true, true, true, false] rfl rfl (by kernel_rfl) (fun _ _ _ h => h) (Or.inl ⟨by rfl, ?_⟩) ?_ ?_
    rotate_left
    · intro w'
      go_simp
      with_reducible rfl
    rotate_left
    · simp only [Act.put, List.setIfInBounds_toArray, List.set_cons_zero, List.set_cons_succ]
      rfl
    refine pure_ (i := 5) (N := some 2) (v := ?_) (a' := ?_) #[true, true, true, true, true, true] rfl rfl (by kernel_rfl) (fun _ _ _ h => h) (Or.inl ⟨by rfl, ?_⟩) ?_ ?_
    rotate_left
    · intro w'
      go_simp
      with_reducible rfl
    rotate_left
    · simp only [Act.put, List.setIfInBounds_toArray, List.set_cons_zero, List.set_cons_succ]
      rfl
    refine done_ (by kernel_rfl) ?_
    have hP := HP.out
    simp only [h3, h4, h5, h6, Bool.not_true, Bool.not_false, Bool.false_and, Bool.true_and] at hP
    subst hP
    go_wp2
    go_ret
    exact ⟨rfl, HW10⟩)
end Go.Proofs.Ytmkncddbecmlpaa.Pr
end
