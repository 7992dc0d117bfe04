/-
  A part of what the row VaultCrashes reaches, laid together by a program of this session (wip/tools/shake.py) out of this seat's texts. No condition but the ones that each lemma names.
-/
import Derived.Test.YtcfinlmocgbnbaaProg
import Derived.Below
import Derived.Deep.Draws
import Derived.Deep.AppendLies
import Derived.Maps.AppendAt
import Derived.OwnWalk
import Derived.Laws.BytesArg
import Derived.Laws.MakeOwn
import Derived.Laws.OwnMore
import Derived.Deep.OwnRows
import Derived.Tactics
import Derived.Lib.ConvBytes
import Derived.Laws.Slices
import Derived.WalkKit
import Derived.KernelRfl
import Derived.RowKit3
import Derived.Deep.LoopGhost
import Derived.Deep.QuietTactic
import Derived.BigQuiet
import Derived.WideLaws
import Derived.Deep.DeepCutAuto
import Derived.Deep.CutBlock
import Derived.Deep.RegionHeld3
import Derived.Laws.Rows
import Derived.Lib.AppendStr
import Derived.ArgAppend
import Derived.Laws.IdiomCopy
import Derived.OrdersHeld
import Derived.Laws.BitsLemmas
import Derived.RowKit
import Derived.RangeFuncNested
import Derived.RangeFuncBound
import Derived.RangeFuncCalls
import Derived.RangeFuncLeaves
import Derived.Shelf.Abstract
import Derived.Shelf.RegionOpen
import Derived.OwnWalkIn
import Derived.TacticsInMore
import Derived.LoopNIn
import Derived.LoopIn
import Derived.RegionTactic
import Derived.ChangeAlike
import Derived.Outline
import Derived.Lib.Hide
import Derived.Test.YtcfinlmocgbnbaaZVaultCrashes0
set_option linter.unusedVariables false
set_option linter.unusedSimpArgs false
section
set_option linter.unusedVariables false
namespace Go.Proofs.Ytcfinlmocgbnbaa.Sq
open Go.RowKit Go.Proofs.YtcfinlmocgbnbaaW.PrintWords Go.Proofs.YtcfinlmocgbnbaaW.PrintLast Go.Proofs.YtcfinlmocgbnbaaW.PrintMore
variable {P : Program} {ops : Array Oper} {Q : Exit → Act → World → Prop} {md : Region.Mode} {S : World → Prop} {ds : List Nat} {T : Bool × List (List Nat × List Nat)} {B : List Nat}
theorem pu_ {oi : Oper} {v : Value} {fuel : Nat} {l : Array Bool} {a a' : Act} {w : World} (i : Nat) (N : Option Tmp) (hT : Aside0 (rtab md ops = T)) (hi : ops[i]? = some oi) (hN : oi.dst = N)
    (hy : Yields P ops oi v a) (ha : a.put N v = a') (h : wpAnyLast P md ops Q S ds fuel (l.setIfInBounds i true) a' w) (hc : anyT T l.toList (l.setIfInBounds i true).toList i = true := by kernel_rfl) (hQ : ∀ c a w, Q (.panic c) (a.put oi.dst v) w → Q (.panic c) a w := by exact fun _ _ _ h => h) : wpAnyLast P md ops Q S ds (fuel + 1) l a w :=
  pure_ (i := i) (N := N) _ hi hN (any_of hT.out hc) hQ hy ha h
theorem tk_ {oi : Oper} {v : Value} {fuel : Nat} {l : Array Bool} {a a' : Act} {w : World} (i : Nat) (N : Option Tmp) (hT : Aside0 (rtab md ops = T)) (hB : Aside0 (waitsOk T.2 B = true)) (hi : ops[i]? = some oi) (hN : oi.dst = N)
    (hy : YieldsIf P ops S oi v a) (hS : S w) (ha : a.put N v = a') (h : wpAnyLast P md ops Q S ds fuel (l.setIfInBounds i true) a' w) (hc : takeW T B ds l.toList (l.setIfInBounds i true).toList i = true := by kernel_rfl) (hQ : ∀ c a w, Q (.panic c) (a.put oi.dst v) w → Q (.panic c) a w := by exact fun _ _ _ h => h) : wpAnyLast P md ops Q S ds (fuel + 1) l a w :=
  take_ (i := i) (N := N) _ hi hN (take_ofW hT.out hB.out hc) hQ hy hS ha h
theorem on_ {oi : Oper} {fuel : Nat} {l : Array Bool} {a : Act} {w : World} (i : Nat) (N : Option Tmp) (hT : Aside0 (rtab md ops = T)) (hi : ops[i]? = some oi) (hN : oi.dst = N)
    (h : ∀ K : Act → World → Prop, Shut (∀ a' w', S w' → (S w' → wpAnyLast P md ops Q S ds fuel (l.setIfInBounds i true) a' w') → K a' w') → if Region.wanted oi (yielded ops a.tmps) = true then Oper.wp P oi a w K Q else K (a.put N undef) w) (hc : (readyT T.2 l.toList == [i] && l.toList.set i true == (l.setIfInBounds i true).toList) = true := by kernel_rfl) (hd : i ∉ ds := by decide) :
    wpAnyLast P md ops Q S ds (fuel + 1) l a w :=
  one_ (i := i) (N := N) _ hi hN (one_of hT.out hc) hd h
theorem la_ {oi : Oper} {fuel : Nat} {l : Array Bool} {a : Act} {w : World} (i : Nat) (N : Option Tmp) (hT : Aside0 (rtab md ops = T)) (hi : ops[i]? = some oi) (hN : oi.dst = N)
    (h : ∀ K : Act → World → Prop, Shut (∀ a' w', wpAnyLast P md ops Q S ds fuel (l.setIfInBounds i true) a' w' → K a' w') → if Region.wanted oi (yielded ops a.tmps) = true then Oper.wp P oi a w K Q else K (a.put N undef) w) (hc : (readyT T.2 l.toList == [i] && l.toList.set i true == (l.setIfInBounds i true).toList) = true := by kernel_rfl) (hd : i ∈ ds := by decide) :
    wpAnyLast P md ops Q S ds (fuel + 1) l a w :=
  last_ (i := i) (N := N) _ hi hN (one_of hT.out hc) hd h
theorem pn_ {oi : Oper} {v : Value} {fuel : Nat} {l : Array Bool} {a a' : Act} {w : World} (i : Nat) (N : Option Tmp) (hi : ops[i]? = some oi) (hN : oi.dst = N)
    (hy : Yields P ops oi v a) (ha : a.put N v = a') (h : wpAnyLast P md ops Q S ds fuel (l.setIfInBounds i true) a' w) (hc : anyB md ops l (l.setIfInBounds i true) i = true := by kernel_rfl) (hQ : ∀ c a w, Q (.panic c) (a.put oi.dst v) w → Q (.panic c) a w := by exact fun _ _ _ h => h) : wpAnyLast P md ops Q S ds (fuel + 1) l a w :=
  pure_ (i := i) (N := N) _ hi hN hc hQ hy ha h
theorem tn_ {oi : Oper} {v : Value} {fuel : Nat} {l : Array Bool} {a a' : Act} {w : World} (i : Nat) (N : Option Tmp) (hi : ops[i]? = some oi) (hN : oi.dst = N)
    (hy : YieldsIf P ops S oi v a) (hS : S w) (ha : a.put N v = a') (h : wpAnyLast P md ops Q S ds fuel (l.setIfInBounds i true) a' w) (hc : takeB md ops ds l (l.setIfInBounds i true) i = true := by kernel_rfl) (hQ : ∀ c a w, Q (.panic c) (a.put oi.dst v) w → Q (.panic c) a w := by exact fun _ _ _ h => h) : wpAnyLast P md ops Q S ds (fuel + 1) l a w :=
  take_ (i := i) (N := N) _ hi hN hc hQ hy hS ha h
theorem sa_ {α : Type _} (l : List α) (i : Nat) (a : α) : l.toArray.setIfInBounds i a = (l.set i a).toArray := List.setIfInBounds_toArray ..
theorem s0_ {α : Type _} (x : α) (l : List α) (a : α) : (x :: l).set 0 a = a :: l := rfl
theorem s1_ {α : Type _} (x : α) (l : List α) (n : Nat) (a : α) : (x :: l).set (n + 1) a = x :: l.set n a := rfl
class Later (w w' : World) : Prop where
  below : Below w.heap.size w w'
instance (w : World) : Later w w := ⟨Below.refl _ _⟩
instance (w w' : World) (o : Obj) [h : Later w w'] : Later w (w'.alloc o) := ⟨below_alloc h.below o⟩
instance (w w' : World) [h : Later w w'] : Later w w'.drew := ⟨below_drew h.below⟩
instance (w w' : World) (n : Nat) [h : Later w w'] : Later w (w'.drewN n) := ⟨pw_below_drewN h.below n⟩
theorem ob_ {α β : Type _} {o : Option α} {f : α → Option β} {b : β} (h : o.bind f = some b) : ∃ a, o = some a ∧ f a = some b := Option.bind_eq_some_iff.mp h
theorem am {p : Prop} (h : p) : Aside0 p := ⟨h⟩
theorem pb {w0 w w' : World} (h : Aside0 (Below w0.heap.size w0 w)) [k : Later w w'] : Below w0.heap.size w0 w' := below_step h.out k.below
theorem pk {w w' : World} {g : Nat} {o : Obj} (h : Aside0 (w.heap[g]? = some o)) [k : Later w w'] : w'.heap[g]? = some o := bkB h.out k.below
theorem pr {α : Type} {d : Kd α} {e base : Nat} {ok : Nat → Prop} {v : Value} {xs : List α} {w w' : World} (h : Aside0 (d.R e w base ok v xs)) [k : Later w w'] : d.R e w' base ok v xs := Kd.R_below h.out k.below
theorem pm {α : Type} {d : Kd α} {e base : Nat} {ok ok' : Nat → Prop} {v : Value} {xs : List α} {w w' : World} (h : Aside0 (d.R e w base ok v xs)) (f : ∀ k, ok k → ok' k) [k : Later w w'] : d.R e w' base ok' v xs := Kd.R_mono (Kd.R_below h.out k.below) f
section
variable {w : World} {g : Nat} {t : TypeId} {a b c d e f : Value}
theorem bc2 (h : Aside0 (w.heap[g]? = some (.cells #[a, b] t (0, 0)))) : w.cell? ⟨g, 0, none⟩ = some a ∧ w.cell? ⟨g, 1, none⟩ = some b := ⟨(blk_cell h.out 0).trans rfl, (blk_cell h.out 1).trans rfl⟩
theorem bc3 (h : Aside0 (w.heap[g]? = some (.cells #[a, b, c] t (0, 0)))) : w.cell? ⟨g, 0, none⟩ = some a ∧ w.cell? ⟨g, 1, none⟩ = some b ∧ w.cell? ⟨g, 2, none⟩ = some c := ⟨(blk_cell h.out 0).trans rfl, (blk_cell h.out 1).trans rfl, (blk_cell h.out 2).trans rfl⟩
theorem bc5 (h : Aside0 (w.heap[g]? = some (.cells #[a, b, c, d, e] t (0, 0)))) : w.cell? ⟨g, 0, none⟩ = some a ∧ w.cell? ⟨g, 1, none⟩ = some b ∧ w.cell? ⟨g, 2, none⟩ = some c ∧ w.cell? ⟨g, 3, none⟩ = some d ∧ w.cell? ⟨g, 4, none⟩ = some e := ⟨(blk_cell h.out 0).trans rfl, (blk_cell h.out 1).trans rfl, (blk_cell h.out 2).trans rfl, (blk_cell h.out 3).trans rfl, (blk_cell h.out 4).trans rfl⟩
end
section
variable {α : Type} {d : Kd α} {e base g : Nat} {ok : Nat → Prop} {v : Value} {xs : List α} {w : World} {v0 v1 v2 v3 v4 : Value}
theorem rf1 (h : d.R e w base ok v xs) (hg : ∀ k, ok k → k ≠ g) : d.R e (w.setCell ⟨g, 0, none⟩ v0) base ok v xs := Kd.R_far (p := ⟨g, 0, none⟩) h hg v0
theorem rf2 (h : d.R e w base ok v xs) (hg : ∀ k, ok k → k ≠ g) : d.R e ((w.setCell ⟨g, 0, none⟩ v0).setCell ⟨g, 1, none⟩ v1) base ok v xs := Kd.R_far (p := ⟨g, 1, none⟩) (rf1 h hg) hg v1
theorem rf3 (h : d.R e w base ok v xs) (hg : ∀ k, ok k → k ≠ g) : d.R e (((w.setCell ⟨g, 0, none⟩ v0).setCell ⟨g, 1, none⟩ v1).setCell ⟨g, 2, none⟩ v2) base ok v xs := Kd.R_far (p := ⟨g, 2, none⟩) (rf2 h hg) hg v2
theorem rf4 (h : d.R e w base ok v xs) (hg : ∀ k, ok k → k ≠ g) : d.R e ((((w.setCell ⟨g, 0, none⟩ v0).setCell ⟨g, 1, none⟩ v1).setCell ⟨g, 2, none⟩ v2).setCell ⟨g, 3, none⟩ v3) base ok v xs := Kd.R_far (p := ⟨g, 3, none⟩) (rf3 h hg) hg v3
theorem rf5 (h : d.R e w base ok v xs) (hg : ∀ k, ok k → k ≠ g) : d.R e (((((w.setCell ⟨g, 0, none⟩ v0).setCell ⟨g, 1, none⟩ v1).setCell ⟨g, 2, none⟩ v2).setCell ⟨g, 3, none⟩ v3).setCell ⟨g, 4, none⟩ v4) base ok v xs := Kd.R_far (p := ⟨g, 4, none⟩) (rf4 h hg) hg v4
end
section
variable {w : World} {g g' : Nat} {t : TypeId} {cs : Array Value} {o : Obj} {a b c d e a' b' c' d' e' : Value} {i0 i1 i2 i3 i4 : Nat}
theorem bf2 (h : Aside0 (w.heap[g]? = some (.cells cs t (0, 0)))) : w.frozen? ⟨g, 0, none⟩ = false ∧ w.frozen? ⟨g, 1, none⟩ = false := ⟨blk_frozen h.out 0, blk_frozen h.out 1⟩
theorem bf3 (h : Aside0 (w.heap[g]? = some (.cells cs t (0, 0)))) : w.frozen? ⟨g, 0, none⟩ = false ∧ w.frozen? ⟨g, 1, none⟩ = false ∧ w.frozen? ⟨g, 2, none⟩ = false := ⟨blk_frozen h.out 0, blk_frozen h.out 1, blk_frozen h.out 2⟩
theorem bf5 (h : Aside0 (w.heap[g]? = some (.cells cs t (0, 0)))) : w.frozen? ⟨g, 0, none⟩ = false ∧ w.frozen? ⟨g, 1, none⟩ = false ∧ w.frozen? ⟨g, 2, none⟩ = false ∧ w.frozen? ⟨g, 3, none⟩ = false ∧ w.frozen? ⟨g, 4, none⟩ = false := ⟨blk_frozen h.out 0, blk_frozen h.out 1, blk_frozen h.out 2, blk_frozen h.out 3, blk_frozen h.out 4⟩
theorem br5 (h : w.heap[g]? = some (.cells cs t (0, 0))) (n : Aside0 (g ≠ g')) : (((((w.setCell ⟨g', i0, none⟩ a).setCell ⟨g', i1, none⟩ b).setCell ⟨g', i2, none⟩ c).setCell ⟨g', i3, none⟩ d).setCell ⟨g', i4, none⟩ e).heap[g]? = some (.cells cs t (0, 0)) :=
  blk_far (blk_far (blk_far (blk_far (blk_far h n.out _) n.out _) n.out _) n.out _) n.out _
theorem bp2 (h : w.heap[g]? = some (.cells #[a, b] t (0, 0))) : ((w.setCell ⟨g, 0, none⟩ a').setCell ⟨g, 1, none⟩ b').heap[g]? = some (.cells #[a', b'] t (0, 0)) := blk_put (cs := #[a', b]) (blk_put (cs := #[a, b]) h 0 _ rfl) 1 _ rfl
theorem bp3 (h : w.heap[g]? = some (.cells #[a, b, c] t (0, 0))) : (((w.setCell ⟨g, 0, none⟩ a').setCell ⟨g, 1, none⟩ b').setCell ⟨g, 2, none⟩ c').heap[g]? = some (.cells #[a', b', c'] t (0, 0)) :=
  blk_put (cs := #[a', b', c]) (blk_put (cs := #[a', b, c]) (blk_put (cs := #[a, b, c]) h 0 _ rfl) 1 _ rfl) 2 _ rfl
theorem bp5 (h : w.heap[g]? = some (.cells #[a, b, c, d, e] t (0, 0))) : (((((w.setCell ⟨g, 0, none⟩ a').setCell ⟨g, 1, none⟩ b').setCell ⟨g, 2, none⟩ c').setCell ⟨g, 3, none⟩ d').setCell ⟨g, 4, none⟩ e').heap[g]? = some (.cells #[a', b', c', d', e'] t (0, 0)) :=
  blk_put (cs := #[a', b', c', d', e]) (blk_put (cs := #[a', b', c', d, e]) (blk_put (cs := #[a', b', c, d, e]) (blk_put (cs := #[a', b, c, d, e]) (blk_put (cs := #[a, b, c, d, e]) h 0 _ rfl) 1 _ rfl) 2 _ rfl) 3 _ rfl) 4 _ rfl
end
section
variable {w W : World} {g g' j n : Nat} {u : Value} {o : Obj} {t : TypeId} {cs : Array Value}
theorem ba (h : Below w.heap.size w W) : Below w.heap.size w (W.alloc o) := below_alloc h o
theorem bn (h : Below w.heap.size w W) : Below w.heap.size w (W.drewN n) := pw_below_drewN h n
theorem bd (h : Below w.heap.size w W) : Below w.heap.size w W.drew := below_drew1 h
theorem bs (hg : Aside0 (w.heap.size ≤ g)) (h : Below w.heap.size w W) : Below w.heap.size w (W.setCell ⟨g, j, none⟩ u) := below_set h hg.out
theorem ge_ (hg : g = W.heap.size) (h : Below w.heap.size w W) : Aside0 (w.heap.size ≤ g) := ⟨by rw [hg]; exact h.size⟩
theorem nl_ (hg : g' = W.heap.size) (h : Aside0 (w.heap[g]? = some o)) [k : Later w W] : Aside0 (g ≠ g') := ⟨by rw [hg]; exact Nat.ne_of_lt (blk_lt (pk h))⟩
theorem ng_ (hg : g' = W.heap.size) (h : Aside0 (w.heap[g]? = some o)) [k : Later w W] : Aside0 (g' ≠ g) := ⟨by rw [hg]; exact Nat.ne_of_gt (blk_lt (pk h))⟩
end
section
variable {α : Type} {d : Kd α} {e base g : Nat} {ok : Nat → Prop} {v : Value} {xs : List α} {w W : World} {v0 v1 v2 v3 v4 : Value} {t : TypeId} {cs : Array Value}
theorem ra {o : Obj} (h : d.R e w base ok v xs) : d.R e (w.alloc o) base ok v xs := Kd.R_alloc h o
theorem rn {n : Nat} (h : d.R e w base ok v xs) : d.R e (w.drewN n) base ok v xs := Kd.R_drewN h n
theorem rd (h : d.R e w base ok v xs) : d.R e w.drew base ok v xs := Kd.R_drew h
theorem rs5 (h : Aside0 (d.R e w base ok v xs)) (b : Aside0 (w.heap[g]? = some (.cells cs t (0, 0)))) (ht : ∀ q, q ∈ e :: d.E → q ≠ t) : d.R e (((((w.setCell ⟨g, 0, none⟩ v0).setCell ⟨g, 1, none⟩ v1).setCell ⟨g, 2, none⟩ v2).setCell ⟨g, 3, none⟩ v3).setCell ⟨g, 4, none⟩ v4) base ok v xs :=
  Kd.R_mono (rf5 (Kd.R_types h.out b.out ht) (fun _ hk => hk.2)) (fun _ h_ => h_.1)
theorem rs2 (h : Aside0 (d.R e w base ok v xs)) (b : Aside0 (w.heap[g]? = some (.cells cs t (0, 0)))) (ht : ∀ q, q ∈ e :: d.E → q ≠ t) : d.R e ((w.setCell ⟨g, 0, none⟩ v0).setCell ⟨g, 1, none⟩ v1) base ok v xs :=
  Kd.R_mono (rf2 (Kd.R_types h.out b.out ht) (fun _ hk => hk.2)) (fun _ h_ => h_.1)
end
end Go.Proofs.Ytcfinlmocgbnbaa.Sq
end
section
namespace Go.Proofs.Ytcfinlmocgbnbaa.Pr
open Go.RowKit Go.Proofs.YtcfinlmocgbnbaaW.PrintWords Go.Proofs.YtcfinlmocgbnbaaW.PrintLast Go.Proofs.YtcfinlmocgbnbaaW.PrintMore
attribute [local go_sem] max2_int min2_int max_two min_two max_three min_three max_four min_four
set_option linter.unusedVariables false
set_option linter.unusedSimpArgs false
def errW : Option Int → Value
 | none => .nilIface
 | some c => .iface 0 (.int .i64 c)
theorem errW_none : errW none = .nilIface := rfl
theorem errW_some (c : Int) : errW (some c) = .iface 0 (.int .i64 c) := rfl
theorem info3 : (Try.prog.info? 3).map (fun i => (i.zero, i.size, i.bytes)) = some (some (.int .i64 0), 1, 8) := by kernel_rfl
theorem info5 : (Try.prog.info? 5).map (fun i => (i.zero, i.size, i.bytes)) = some (some (.int .u8 0), 1, 1) := by kernel_rfl
theorem info9 : (Try.prog.info? 9).map (fun i => (i.zero, i.size, i.bytes)) = some (some (.string ⟨#[]⟩), 1, 16) := by kernel_rfl
theorem info24 : (Try.prog.info? 24).map (fun i => (i.zero, i.size, i.bytes)) = some (some (.agg #[(.bool false), (.int .i64 0), (.string ⟨#[]⟩)]), 3, 32) := by kernel_rfl
structure S24 where
 f0 : Bool
 f1 : Int
 f2 : ByteArray
def z24 : S24 := ⟨false, (0 : Int), (⟨#[]⟩ : ByteArray)⟩
def k24 : Kd S24 := Kd.iso (Kd.pair Kd.bool (Kd.pair (Kd.int .i64) Kd.string)) (fun x : S24 => (x.f0, x.f1, x.f2))
theorem k24_open {w : World} {x : S24} {cs : List Value} (h : k24.K w x cs) : cs = [.bool x.f0, .int .i64 x.f1, .string x.f2] := by
 obtain ⟨_, _, rfl, rfl, ⟨_, _, rfl, rfl, rfl⟩⟩ := h
 exact rfl
theorem k24_mkM (w : World) (base : Nat) (ok : Nat → Prop) (x : S24)  : k24.M w base ok x [.bool x.f0, .int .i64 x.f1, .string x.f2] := ⟨[.bool x.f0], [.int .i64 x.f1, .string x.f2], rfl, rfl, ⟨[.int .i64 x.f1], [.string x.f2], rfl, rfl, rfl⟩⟩
def rd_T24 (xs : List S24) (i : Int) : S24 := xs.getD i.toNat z24
theorem at_T24 {w : World} {A : Option Addr} {n : Nat} {xs : List S24} (h : Kd.C k24 w A n xs) (i : Int) (h0 : 0 ≤ i) (h1 : i < n) : ∃ ad , A = some ad ∧ w.cell? (ad.add (i.toNat * 3)) = some (.bool (rd_T24 xs i).f0) ∧ w.cell? ⟨(ad.add (i.toNat * 3)).block, (ad.add (i.toNat * 3)).off + 1, none⟩ = some (.int .i64 (rd_T24 xs i).f1) ∧ w.cell? ⟨(ad.add (i.toNat * 3)).block, (ad.add (i.toNat * 3)).off + 2, none⟩ = some (.string (rd_T24 xs i).f2) := by
 obtain ⟨ad, c, e, _, hK, hc0⟩ := Kd.C_get h z24 i h0 h1
 have hc : ∀ j u, c[j]? = some u → w.cell? (ad.add (i.toNat * 3 + j)) = some u := hc0
 obtain rfl := k24_open hK
 exact ⟨ad, e, hc 0 _ rfl, by rw [← add_field _ _ 1 (by omega)]; exact hc 1 _ rfl, by rw [← add_field _ _ 2 (by omega)]; exact hc 2 _ rfl⟩
structure S30 where
 f0 : (List ByteArray)
 f1 : (List S24)
structure S56 where
 f0 : S30
 f1 : Int
 f2 : Int
 f3 : Int
structure S60 where
 f0 : Int
 f1 : Int
def k60 : Kd S60 := Kd.iso (Kd.pair (Kd.int .i64) (Kd.int .i64)) (fun x : S60 => (x.f0, x.f1))
structure S67 where
 f0 : Int
 f1 : Int
 f2 : Int
def z67 : S67 := ⟨(0 : Int), (0 : Int), (0 : Int)⟩
def k67 : Kd S67 := Kd.iso (Kd.pair (Kd.int .i64) (Kd.pair (Kd.int .i64) (Kd.int .i64))) (fun x : S67 => (x.f0, x.f1, x.f2))
theorem k67_open {w : World} {x : S67} {cs : List Value} (h : k67.K w x cs) : cs = [.int .i64 x.f0, .int .i64 x.f1, .int .i64 x.f2] := by
 obtain ⟨_, _, rfl, rfl, ⟨_, _, rfl, rfl, rfl⟩⟩ := h
 exact rfl
theorem k67_mk (w : World) (x : S67)  : k67.K w x [.int .i64 x.f0, .int .i64 x.f1, .int .i64 x.f2] := ⟨[.int .i64 x.f0], [.int .i64 x.f1, .int .i64 x.f2], rfl, rfl, ⟨[.int .i64 x.f1], [.int .i64 x.f2], rfl, rfl, rfl⟩⟩
def rd_T67 (xs : List S67) (i : Int) : S67 := xs.getD i.toNat z67
theorem at_T67 {w : World} {A : Option Addr} {n : Nat} {xs : List S67} (h : Kd.C k67 w A n xs) (i : Int) (h0 : 0 ≤ i) (h1 : i < n) : ∃ ad , A = some ad ∧ w.cell? (ad.add (i.toNat * 3)) = some (.int .i64 (rd_T67 xs i).f0) ∧ w.cell? ⟨(ad.add (i.toNat * 3)).block, (ad.add (i.toNat * 3)).off + 1, none⟩ = some (.int .i64 (rd_T67 xs i).f1) ∧ w.cell? ⟨(ad.add (i.toNat * 3)).block, (ad.add (i.toNat * 3)).off + 2, none⟩ = some (.int .i64 (rd_T67 xs i).f2) := by
 obtain ⟨ad, c, e, _, hK, hc0⟩ := Kd.C_get h z67 i h0 h1
 have hc : ∀ j u, c[j]? = some u → w.cell? (ad.add (i.toNat * 3 + j)) = some u := hc0
 obtain rfl := k67_open hK
 exact ⟨ad, e, hc 0 _ rfl, by rw [← add_field _ _ 1 (by omega)]; exact hc 1 _ rfl, by rw [← add_field _ _ 2 (by omega)]; exact hc 2 _ rfl⟩
end Go.Proofs.Ytcfinlmocgbnbaa.Pr
end
section
namespace Go.Proofs.Ytcfinlmocgbnbaa.Pr
open Go.Proofs.Ytcfinlmocgbnbaa.Sq Go.RowKit Go.Proofs.YtcfinlmocgbnbaaW.PrintWords Go.Proofs.YtcfinlmocgbnbaaW.PrintLast Go.Proofs.YtcfinlmocgbnbaaW.PrintMore
attribute [local go_sem] max2_int min2_int max_two min_two max_three min_three max_four min_four
set_option linter.unusedVariables false
set_option linter.unusedSimpArgs false
def columbariumlaw15_pick.f (a0 : Int) (a1 : Int) : Option (Int) := if a0 < 0 then (if a1 = 0 then (none) else (some (Int.tmod (wrap64 (-(wrap64 (a0 + 1)))) a1))) else (if a1 = 0 then (none) else (some (Int.tmod a0 a1)))
set_option maxHeartbeats 8000000 in
set_option maxRecDepth 100000 in
theorem columbariumlaw15_pick.calls (a0 : Int) (a1 : Int) (r : Int) (w : World) (h : columbariumlaw15_pick.f a0 a1 = some r) :
  Calls Try.prog 29 #[.int .i64 a0, .int .i64 a1] w fun e w' => e = .returned (.int .i64 r) ∧ Drawn0 w w' := by
 have H : (if a0 < 0 then (if a1 = 0 then (none) else (some (Int.tmod (wrap64 (-(wrap64 (a0 + 1)))) a1))) else (if a1 = 0 then (none) else (some (Int.tmod a0 a1)))) = some r := h
 clear h
 by_cases c3 : a0 < 0
 ·rw [if_pos c3] at H
  have c3b0 : decide (a0 < 0) = true := decide_eq_true c3
  clear c3
  by_cases c4 : a1 = 0
  ·rw [if_pos c4] at H
   exact absurd H (by simp)
  rw [if_neg c4] at H
  have c4b0 : (a1 == 0) = false := beq_eq_false_iff_ne.mpr c4
  have c4b1 : (a1 != 0) = true := bne_iff_ne.mpr c4
  obtain rfl := Option.some.inj H
  go_enter Try.func29, Try.ntmps29
  go_wp2
  go_ret
  exact ⟨by first | rfl | (simp; done) | (simp [*]; done), by repeat (first | exact Drawn0.refl _ | apply Drawn0.step)⟩
 rw [if_neg c3] at H
 have c3b0 : decide (a0 < 0) = false := decide_eq_false c3
 clear c3
 by_cases c5 : a1 = 0
 ·rw [if_pos c5] at H
  exact absurd H (by simp)
 rw [if_neg c5] at H
 have c5b0 : (a1 == 0) = false := beq_eq_false_iff_ne.mpr c5
 have c5b1 : (a1 != 0) = true := bne_iff_ne.mpr c5
 obtain rfl := Option.some.inj H
 go_enter Try.func29, Try.ntmps29
 go_wp2
 go_ret
 exact ⟨by first | rfl | (simp; done) | (simp [*]; done), by repeat (first | exact Drawn0.refl _ | apply Drawn0.step)⟩
end Go.Proofs.Ytcfinlmocgbnbaa.Pr
end
section
namespace Go.Proofs.Ytcfinlmocgbnbaa.Pr
open Go.Proofs.Ytcfinlmocgbnbaa.Sq Go.RowKit Go.Proofs.YtcfinlmocgbnbaaW.PrintWords Go.Proofs.YtcfinlmocgbnbaaW.PrintLast Go.Proofs.YtcfinlmocgbnbaaW.PrintMore
attribute [local go_sem] max2_int min2_int max_two min_two max_three min_three max_four min_four
set_option linter.unusedVariables false
set_option linter.unusedSimpArgs false
def columbariumlaw15_Text.l0 : Nat → List Int → Int → Int → Option (ByteArray)
 | 0, _, _, _ => none
 | k + 1, x3, x4, x5 => if x5 < x4 then (if x3.length < 140737488355328 then (columbariumlaw15_Text.l0 k (x3 ++ [(wrap64 (97 + (Int.tmod (wrap64 (x5 + x4)) 26))) % 256]) x4 (wrap64 (x5 + 1))) else (none)) else (some (strOfNums x3))
def columbariumlaw15_Text.f (k : Nat) (a0 : Int) : Option (ByteArray) := (columbariumlaw15_pick.f a0 101).bind fun tz1 => (columbariumlaw15_Text.l0 k ([] : List Int) tz1 0)
set_option maxHeartbeats 8000000 in
set_option maxRecDepth 100000 in
theorem columbariumlaw15_Text.calls (k : Nat) (a0 : Int) (r : ByteArray) (w : World) (h : columbariumlaw15_Text.f k a0 = some r) :
  Calls Try.prog 32 #[.int .i64 a0] w fun e w' => e = .returned (.string r) ∧ Below w.heap.size w w' := by
 have HB := am (Below.refl w.heap.size w)
 have H : ((columbariumlaw15_pick.f a0 101).bind fun tz1 => (columbariumlaw15_Text.l0 k ([] : List Int) tz1 0)) = some r := h
 clear h
 replace H := ob_ H
 obtain ⟨tz1, A20, H⟩ := H
 replace H : (columbariumlaw15_Text.l0 k ([] : List Int) tz1 0) = some r := H
 have A2 := Aside0.mk A20
 clear A20
 have H' := am H
 clear H
 go_enter Try.func32, Try.ntmps32
 go_wp2_with (first | ((with_reducible refine gate_callee (f := 29) rfl ?_); refine goesL_ (some 7) rfl rfl Try.func29 (by kernel_rfl) rfl #[.int .i64 a0, .int .i64 101] rfl (by (try simp only [List.map_toArray, List.map_cons, List.map_nil]) <;> rfl) ?_; (with_reducible refine (columbariumlaw15_pick.calls a0 101 tz1 _ A2.out).mono ?_); rintro e w' ⟨rfl, ⟨nd, rfl⟩⟩; refine ⟨_, rfl, ?_⟩))
 go_loopg [3, 5] k (fun kq v3 v5 w' => ∃ (x3_1 : List Int) (x5_1 : Int), v5 = .int .i64 x5_1 ∧ Aside0 (columbariumlaw15_Text.l0 kq x3_1 tz1 x5_1 = some r) ∧ Aside0 (kq ≤ k) ∧ Aside0 (Kd.R (Kd.int .u8) 5 w' w.heap.size (fun _ => True) v3 x3_1) ∧ Aside0 (Below w.heap.size w w'))
 case atStart => exact ⟨(([] : List Int)), (0), (by first | rfl | (simp; done) | (simp [*]; done)), H', ⟨Nat.le_refl _⟩, ⟨by exact Kd.R_nil _ _ _ _ _⟩, ⟨by repeat first | (with_reducible first | exact HB.out | apply ba | apply bn | apply bd | refine bs (by assumption) ?_) | exact HB.out⟩⟩
 clear H'
 try clear c2
 try clear p2
 obtain ⟨x3_1, x5_1, rfl, HA, HK1, HO_3, HB⟩ := hrel
 cases gk with
 | zero => exact absurd HA.out (by simp [columbariumlaw15_Text.l0])
 | succ k1 => ?_
 have H := HA.out
 clear HA
 simp only [columbariumlaw15_Text.l0] at H
 by_cases c3 : x5_1 < tz1
 rotate_left
 ·rw [if_neg c3] at H
  have c3b0 : decide (x5_1 < tz1) = false := decide_eq_false c3
  clear c3
  obtain rfl := Option.some.inj H
  have hcv6 := own_string (P := Try.prog) Try.underlying49 Try.underlying5 Try.underlying9 (Kd.own_of_R HO_3.out)
  go_wp2
  go_ret
  exact ⟨by first | rfl | (simp <;> rfl) | (simp [*] <;> rfl), by repeat first | (with_reducible first | exact HB.out | apply ba | apply bn | apply bd | refine bs (by assumption) ?_) | exact HB.out⟩
 rw [if_pos c3] at H
 have c3b0 : decide (x5_1 < tz1) = true := decide_eq_true c3
 clear c3
 by_cases c4 : x3_1.length < 140737488355328
 rotate_left
 ·rw [if_neg c4] at H
  exact absurd H (by simp)
 rw [if_pos c4] at H
 have LMc4 := Aside0.mk c4
 clear c4
 obtain ⟨yz2, hyz2⟩ : ∃ y_ : List Int, y_ = (x3_1 ++ [(wrap64 (97 + (Int.tmod (wrap64 (x5_1 + tz1)) 26))) % 256]) := ⟨_, rfl⟩
 replace H : (columbariumlaw15_Text.l0 k1 yz2 tz1 (wrap64 (x5_1 + 1))) = some r := by first | (rw [hyz2]; with_reducible exact H) | (have H2_ := (Option.bind_some _ _).symm.trans H; rw [hyz2]; with_reducible exact H2_) | (have H2_ := (Option.bind_some _ _).symm.trans H; with_reducible exact H2_) | with_reducible exact H | (rw [hyz2]; exact H) | exact H
 have Nyz2 := am hyz2
 clear hyz2
 have H' := am H
 clear H
 go_wp2_with (first | ((with_reducible refine gate_builtin (b := .append) (xs := #[.tmp 13, .tmp 20]) rfl ?_); at_builtin; refine Kd.R_append (Kd.int .u8) (w0 := w) w.heap.size rfl (.tmp 13) (.tmp 20) 49 5 (.int .u8 0) 1 rfl Try.underlying49 info5 rfl (by decide) (by omega) u3 x3_1 ((wrap64 (97 + (Int.tmod (wrap64 (x5_1 + tz1)) 26))) % 256) [.int .u8 ((wrap64 (97 + (Int.tmod (wrap64 (x5_1 + tz1)) 26))) % 256)] (fun _ => True) (fun _ => False) rfl rfl ?aP (fun _ hk => hk.elim) ?aF ?aO ?aB ?aS ?aL ?_; (case aP => exact rfl); (case aB => exact (pb HB)); (case aF => exact (fun _ _ => trivial)); (case aO => exact (pr HO_3)); (case aS => exact (below_size (pb HB))); (case aL => have := LMc4.out; omega); intro vz3 w5 ho hb hg hat; rw [← Nyz2.out] at ho; have n0_ := am (hb); have n1_ := am (ho); clear HB; clear HO_3; have HB := n0_; have HOz4 := n1_; clear n0_ n1_; clear ho hb hg hat))
 go_roundg k1
 case measure => have := HK1.out; omega
 case rel => exact ⟨(yz2), (wrap64 (x5_1 + 1)), (by first | rfl | (simp; done) | (simp [*]; done)), H', ⟨by have := HK1.out; omega⟩, ⟨by (with_reducible repeat first | apply ra | apply rn | apply rd); exact HOz4.out⟩, ⟨by repeat first | (with_reducible first | exact HB.out | apply ba | apply bn | apply bd | refine bs (by assumption) ?_) | exact HB.out⟩⟩
end Go.Proofs.Ytcfinlmocgbnbaa.Pr
end
section
namespace Go.Proofs.Ytcfinlmocgbnbaa.Pr
open Go.Proofs.Ytcfinlmocgbnbaa.Sq Go.RowKit Go.Proofs.YtcfinlmocgbnbaaW.PrintWords Go.Proofs.YtcfinlmocgbnbaaW.PrintLast Go.Proofs.YtcfinlmocgbnbaaW.PrintMore
attribute [local go_sem] max2_int min2_int max_two min_two max_three min_three max_four min_four
set_option linter.unusedVariables false
set_option linter.unusedSimpArgs false
def columbariumref14_Own.f (l0_0 : List ByteArray) (l0_1 : List (S24)) : Option (List ByteArray × (List (S24))) := if ([] : List ByteArray).length + l0_0.length < 8796093022208 then (if ([] : List (S24)).length + l0_1.length < 4398046511104 then (some ((([] : List ByteArray) ++ l0_0), (([] : List (S24)) ++ l0_1))) else (none)) else (none)
def columbariumref14_Own.T1 : Bool × List (List Nat × List Nat) := (true, [([], []), ([0], [0]), ([1], [1]), ([], []), ([3], [3]), ([4, 2], [4]), ([2, 5], [2, 5]), ([6, 5, 0, 1, 2, 3, 4, 5, 6], [6])])
def columbariumref14_Own.B1 : List Nat := [0, 1, 3, 0, 8, 31, 63, 127]
theorem columbariumref14_Own.tab1 : rtab .any (opsOf Try.f19 1) = columbariumref14_Own.T1 := by kernel_rfl
theorem columbariumref14_Own.bits1 : waitsOk columbariumref14_Own.T1.2 columbariumref14_Own.B1 = true := by kernel_rfl
set_option maxHeartbeats 8000000 in
set_option maxRecDepth 100000 in
theorem columbariumref14_Own.calls (A0_0 : Option Addr) (c0_0 : Nat) (l0_0 : List ByteArray) (A0_1 : Option Addr) (c0_1 : Nat) (l0_1 : List (S24)) (r1 : List ByteArray) (r2 : List (S24)) (w : World) (hr0_0 : Kd.C Kd.string w A0_0 l0_0.length l0_0) (hc0_0 : l0_0.length ≤ c0_0) (hr0_1 : Kd.C k24 w A0_1 l0_1.length l0_1) (hc0_1 : l0_1.length ≤ c0_1) (h : columbariumref14_Own.f l0_0 l0_1 = some (r1, r2)) :
  Calls Try.prog 19 #[.agg #[.slice A0_0 l0_0.length c0_0, .slice A0_1 l0_1.length c0_1]] w fun e w' => ∃ v0_ v1_ : Value, e = .returned (.agg #[v0_, v1_]) ∧ Kd.R Kd.string 9 w' w.heap.size (fun _ => True) v0_ r1 ∧ Kd.R k24 24 w' w.heap.size (fun _ => True) v1_ r2 ∧ Below w.heap.size w w' := by
 have hu30 := Try.underlying30
 have HR0_0 := am hr0_0
 have HC0_0 := am hc0_0
 clear hr0_0 hc0_0
 have HR0_1 := am hr0_1
 have HC0_1 := am hc0_1
 clear hr0_1 hc0_1
 have HB := am (Below.refl w.heap.size w)
 have H : (if ([] : List ByteArray).length + l0_0.length < 8796093022208 then (if ([] : List (S24)).length + l0_1.length < 4398046511104 then (some ((([] : List ByteArray) ++ l0_0), (([] : List (S24)) ++ l0_1))) else (none)) else (none)) = some (r1, r2) := h
 clear h
 by_cases c2 : ([] : List ByteArray).length + l0_0.length < 8796093022208
 rotate_left
 ·rw [if_neg c2] at H
  exact absurd H (by simp)
 rw [if_pos c2] at H
 have LMc2 := Aside0.mk c2
 clear c2
 obtain ⟨yz3, hyz3⟩ : ∃ y_ : List ByteArray, y_ = (([] : List ByteArray) ++ l0_0) := ⟨_, rfl⟩
 replace H : (if ([] : List (S24)).length + l0_1.length < 4398046511104 then (some (yz3, (([] : List (S24)) ++ l0_1))) else (none)) = some (r1, r2) := by first | (rw [hyz3]; with_reducible exact H) | (have H2_ := (Option.bind_some _ _).symm.trans H; rw [hyz3]; with_reducible exact H2_) | (have H2_ := (Option.bind_some _ _).symm.trans H; with_reducible exact H2_) | with_reducible exact H | (rw [hyz3]; exact H) | exact H
 have Nyz3 := am hyz3
 clear hyz3
 by_cases c3 : ([] : List (S24)).length + l0_1.length < 4398046511104
 rotate_left
 ·rw [if_neg c3] at H
  exact absurd H (by simp)
 rw [if_pos c3] at H
 have LMc3 := Aside0.mk c3
 clear c3
 obtain ⟨yz6, hyz6⟩ : ∃ y_ : List (S24), y_ = (([] : List (S24)) ++ l0_1) := ⟨_, rfl⟩
 replace H : (some (yz3, yz6)) = some (r1, r2) := by first | (rw [hyz6]; with_reducible exact H) | (have H2_ := (Option.bind_some _ _).symm.trans H; rw [hyz6]; with_reducible exact H2_) | (have H2_ := (Option.bind_some _ _).symm.trans H; with_reducible exact H2_) | with_reducible exact H | (rw [hyz6]; exact H) | exact H
 have Nyz6 := am hyz6
 clear hyz6
 simp only [Option.some.injEq, Prod.mk.injEq] at H
 obtain ⟨rfl, rfl⟩ := H
 go_enter Try.func19, Try.ntmps19
 try go_wp2_with (first | ((with_reducible refine gate_dst (N := 1) rfl ?_); refine box_event ?hg (N := 1) ?hd (cs := #[.slice A0_0 l0_0.length c0_0, .slice A0_1 l0_1.length c0_1]) (t := 30) ?hr ?_; (case hd => rfl); (case hg => rfl); (case hr => first | (go_simp; done) | (go_simp; rfl)); intro gbz1 hg w4 hbox hb; have n0_ := am (below_step (pb HB) hb); have n1_ := am (hbox); have n2_ := ge_ hg (pb HB); have n3_ := ge_ hg (pb HB); clear HB; have HB := n0_; have BKz1 := n1_; have GWz1 := n2_; have GEz1 := n3_; clear n0_ n1_ n2_ n3_; clear hb hbox hg) | ((with_reducible refine gate_dst (N := 2) rfl ?_); refine box_event ?hg (N := 2) ?hd (cs := #[.slice none 0 0, .slice none 0 0]) (t := 30) ?hr ?_; (case hd => rfl); (case hg => rfl); (case hr => first | (go_simp; done) | (go_simp; rfl)); intro gbz2 hg w5 hbox hb; have n0_ := am (bkB (pk BKz1) hb); have n1_ := am (below_step (by repeat first | (with_reducible first | exact HB.out | apply ba | apply bn | apply bd | refine bs (by assumption) ?_) | exact HB.out) hb); have n2_ := am (hbox); have n3_ := ge_ hg (by repeat first | (with_reducible first | exact HB.out | apply ba | apply bn | apply bd | refine bs (by assumption) ?_) | exact HB.out); have n4_ := ge_ hg (by repeat first | (with_reducible first | exact HB.out | apply ba | apply bn | apply bd | refine bs (by assumption) ?_) | exact HB.out); have n5_ := nl_ hg BKz1; have n6_ := ng_ hg BKz1; clear BKz1; clear HB; have BKz1 := n0_; have HB := n1_; have BKz2 := n2_; have GWz2 := n3_; have GEz2 := n4_; have NBz1_z2 := n5_; have NBz2_z1 := n6_; clear n0_ n1_ n2_ n3_ n4_ n5_ n6_; clear hb hbox hg))
 have n0_ := am (bkD BKz1.out)
 have n1_ := am (bkD BKz2.out)
 have n2_ := am (below_drew1 HB.out)
 clear BKz1 BKz2 HB; have BKz1 := n0_; have BKz2 := n1_; have HB := n2_; clear n0_ n1_ n2_
 refine start_ (n := 8) (S := fun w' => w'.cell? ⟨gbz1, 0, none⟩ = some (.slice A0_0 l0_0.length c0_0) ∧ w'.cell? ⟨gbz1, 1, none⟩ = some (.slice A0_1 l0_1.length c0_1)) (ds := []) #[false, false, false, false, false, false, false, false] (by kernel_rfl) rfl rfl (bc2 BKz1) (fun hHeld => ?_); refine with_tabW columbariumref14_Own.tab1 columbariumref14_Own.bits1 (fun HT_ HW_ => ?_)
 generalize w5.drew = w6 at BKz1 BKz2 HB hHeld ⊢
 refine pu_ 0 (some 3) HT_ rfl rfl (.inl ⟨by rfl, by intro w'; go_simp; with_reducible rfl⟩) (by simp only [Act.put, sa_, s0_, s1_, i64_w, i32_w]; rfl) ?_
 refine pu_ 3 (some 6) HT_ rfl rfl (.inl ⟨by rfl, by intro w'; go_simp; with_reducible rfl⟩) (by simp only [Act.put, sa_, s0_, s1_, i64_w, i32_w]; rfl) ?_
 refine tk_ 1 (some 4) HT_ HW_ rfl rfl (.inl ⟨by rfl, by rintro w' ⟨s0, s1⟩; go_simp; with_reducible rfl⟩) hHeld (by simp only [Act.put, sa_, s0_, s1_, i64_w, i32_w]; rfl) ?_
 refine tk_ 4 (some 7) HT_ HW_ rfl rfl (.inl ⟨by rfl, by rintro w' ⟨s0, s1⟩; go_simp; with_reducible rfl⟩) hHeld (by simp only [Act.put, sa_, s0_, s1_, i64_w, i32_w]; rfl) ?_
 refine on_ 2 (some 5) HT_ rfl rfl (fun K hK => ?_)
 refine Kd.R_append_rows_step Kd.string (w0 := w) w.heap.size rfl (.const (.slice none 0 0)) (.tmp 4) 27 9 (.string ⟨#[]⟩) 16 rfl Try.underlying27 info9 rfl (by decide) (by omega) (.slice none 0 0) ([] : List ByteArray) l0_0 _ _ _ (fun _ => True) (fun _ => False) rfl rfl ?aO ?aR (fun _ _ h => h) (fun _ h => h.elim) ?aF ?aB ?aS ?aL ?_
 (case aR => repeat (first | exact (Kd.C_below HR0_0.out HB.out) | (with_reducible refine Kd.C_alloc ?_ _) | (with_reducible refine Kd.C_drewN ?_ _) | (with_reducible refine Kd.C_drew ?_)))
 (case aB => exact (by repeat first | (with_reducible first | exact HB.out | apply ba | apply bn | apply bd | refine bs (by assumption) ?_) | exact HB.out))
 (case aF => exact (fun _ _ => trivial))
 (case aO => exact ((Kd.R_nil _ _ _ _ (fun _ => True))))
 (case aS => exact (below_size (by repeat first | (with_reducible first | exact HB.out | apply ba | apply bn | apply bd | refine bs (by assumption) ?_) | exact HB.out)))
 (case aL => have := LMc2.out; omega)
 intro vz4 w7 ho hb hg hat
 rw [← Nyz3.out] at ho
 have n0_ := am (blk_grown (pk BKz1) hg (by simp [Value.ownBlock]))
 have n1_ := am (blk_grown (pk BKz2) hg (by simp [Value.ownBlock]))
 have n2_ := am (hb)
 have n3_ := am (ho)
 clear BKz1 BKz2 HB; have BKz1 := n0_; have BKz2 := n1_; have HB := n2_; have HOz5 := n3_; clear n0_ n1_ n2_ n3_; clear ho hb hg hat
 refine hK.out _ _ (bc2 BKz1) (fun hHeld => ?_)
 clear hK K
 refine norm_ (by show Act.put _ (some 5) _ = _; simp only [Act.put, sa_, s0_, s1_, i64_w, i32_w]; rfl) ?_
 refine on_ 5 (some 8) HT_ rfl rfl (fun K hK => ?_)
 refine Kd.R_append_rows_step k24 (w0 := w) w.heap.size rfl (.const (.slice none 0 0)) (.tmp 7) 28 24 (.agg #[(.bool false), (.int .i64 0), (.string ⟨#[]⟩)]) 32 rfl Try.underlying28 info24 rfl (by decide) (by omega) (.slice none 0 0) ([] : List (S24)) l0_1 _ _ _ (fun _ => True) (fun _ => False) rfl rfl ?aO ?aR (fun _ _ h => h) (fun _ h => h.elim) ?aF ?aB ?aS ?aL ?_
 (case aR => repeat (first | exact (Kd.C_below HR0_1.out HB.out) | (with_reducible refine Kd.C_alloc ?_ _) | (with_reducible refine Kd.C_drewN ?_ _) | (with_reducible refine Kd.C_drew ?_)))
 (case aB => exact (by repeat first | (with_reducible first | exact HB.out | apply ba | apply bn | apply bd | refine bs (by assumption) ?_) | exact HB.out))
 (case aF => exact (fun _ _ => trivial))
 (case aO => exact ((Kd.R_nil _ _ _ _ (fun _ => True))))
 (case aS => exact (below_size (by repeat first | (with_reducible first | exact HB.out | apply ba | apply bn | apply bd | refine bs (by assumption) ?_) | exact HB.out)))
 (case aL => have := LMc3.out; omega)
 intro vz7 w8 ho hb hg hat
 rw [← Nyz6.out] at ho
 have n0_ := am (blk_grown (pk BKz1) hg (by simp [Value.ownBlock]))
 have n1_ := am (blk_grown (pk BKz2) hg (by simp [Value.ownBlock]))
 have n2_ := am (Kd.R_grown (pr HOz5) hg (fun _ _ => by simp [Value.ownBlock]))
 have n3_ := am (hb)
 have n4_ := am (ho)
 clear BKz1 BKz2 HOz5 HB; have BKz1 := n0_; have BKz2 := n1_; have HOz5 := n2_; have HB := n3_; have HOz8 := n4_; clear n0_ n1_ n2_ n3_ n4_; clear ho hb hg hat
 obtain ⟨Ao9, co9, eo9⟩ := Kd.R_slice HOz8.out
 (first | subst eo9 | (injection eo9 with f1_ f2_ f3_; have f4_ := f1_.symm; have f5_ := f3_.symm; clear f1_ f2_ f3_; subst f4_; subst f5_))
 obtain ⟨Ao10, co10, eo10⟩ := Kd.R_slice HOz5.out
 (first | subst eo10 | (injection eo10 with f1_ f2_ f3_; have f4_ := f1_.symm; have f5_ := f3_.symm; clear f1_ f2_ f3_; subst f4_; subst f5_))
 refine hK.out _ _ (bc2 BKz1) (fun hHeld => ?_)
 clear hK K
 refine norm_ (by show Act.put _ (some 8) _ = _; simp only [Act.put, sa_, s0_, s1_, i64_w, i32_w]; rfl) ?_
 refine pu_ 6 (some 9) HT_ rfl rfl (.inl ⟨by rfl, by intro w'; go_simp; with_reducible rfl⟩) (by simp only [Act.put, sa_, s0_, s1_, i64_w, i32_w]; rfl) ?_
 refine on_ 7 none HT_ rfl rfl (fun K hK => ?_)
 have hs11 : w8.cell? ⟨gbz2, 0, none⟩ = some (.slice none 0 0) := (blk_cell BKz2.out 0).trans rfl
 have hfs11 := blk_frozen BKz2.out 0
 have := NBz1_z2.out
 have := NBz2_z1.out
 have hs12 : w8.cell? ⟨gbz2, 1, none⟩ = some (.slice none 0 0) := (blk_cell BKz2.out 1).trans rfl
 have hfs12 := blk_frozen BKz2.out 1
 have := NBz1_z2.out
 have := NBz2_z1.out
 refine skip_ (by rfl) rfl (by go_simp; rfl) ?_
 refine hK.out _ _ ⟨((cell_far (p := ⟨gbz2, _, none⟩) NBz1_z2.out _).trans (((cell_far (p := ⟨gbz2, _, none⟩) NBz1_z2.out _).trans (hHeld.1)))), ((cell_far (p := ⟨gbz2, _, none⟩) NBz1_z2.out _).trans (((cell_far (p := ⟨gbz2, _, none⟩) NBz1_z2.out _).trans (hHeld.2))))⟩ (fun hHeld => ?_)
 clear hK K
 refine done_ (done_of HT_.out (by kernel_rfl)) ?_
 try go_wp2
 refine bodyPost_ret (results_cell_row rfl _ _ gbz2 30 #[.slice Ao10 yz3.length co10, .slice Ao9 yz6.length co9] (0, 0) _ rfl (by (with_reducible repeat (first | refine blk_drewN ?_ _ | refine bkD ?_ | refine bkA ?_ _)); apply bp2; exact pk BKz2) Try.underlying30 rfl (by kernel_rfl)) rfl ?_
 exact ⟨_, _, by first | rfl | (simp <;> rfl) | (simp [*] <;> rfl), by (with_reducible repeat first | apply ra | apply rn | apply rd); exact Kd.R_mono (rf2 (Kd.R_types HOz5.out BKz2.out (by decide)) (fun _ hk => hk.2)) (fun _ hk => trivial), by (with_reducible repeat first | apply ra | apply rn | apply rd); exact Kd.R_mono (rf2 (Kd.R_types HOz8.out BKz2.out (by decide)) (fun _ hk => hk.2)) (fun _ hk => trivial), by repeat first | (with_reducible first | exact HB.out | apply ba | apply bn | apply bd | refine bs (by assumption) ?_) | exact HB.out⟩
end Go.Proofs.Ytcfinlmocgbnbaa.Pr
end
section
namespace Go.Proofs.Ytcfinlmocgbnbaa.Pr
open Go.Proofs.Ytcfinlmocgbnbaa.Sq Go.RowKit Go.Proofs.YtcfinlmocgbnbaaW.PrintWords Go.Proofs.YtcfinlmocgbnbaaW.PrintLast Go.Proofs.YtcfinlmocgbnbaaW.PrintMore
attribute [local go_sem] max2_int min2_int max_two min_two max_three min_three max_four min_four
set_option linter.unusedVariables false
set_option linter.unusedSimpArgs false
def columbariumref14_may.f (a0_0 : Bool) (a0_1 : Int) (a0_2 : ByteArray) (a1 : Int) : Option (Bool) := if a0_0 = true then (if a0_1 = 0 then (some (a0_2.toList == ([] : List UInt8))) else (some false)) else (if a0_1 ≥ 0 then (if a0_1 < a1 then (some ((a0_2.size : Int) == 64)) else (some false)) else (some false))
set_option maxHeartbeats 8000000 in
set_option maxRecDepth 100000 in
theorem columbariumref14_may.calls (a0_0 : Bool) (a0_1 : Int) (a0_2 : ByteArray) (a1 : Int) (r : Bool) (w : World) (h : columbariumref14_may.f a0_0 a0_1 a0_2 a1 = some r) :
  Calls Try.prog 41 #[.agg #[.bool a0_0, .int .i64 a0_1, .string a0_2], .int .i64 a1] w fun e w' => e = .returned (.bool r) ∧ Below w.heap.size w w' := by
 have hu24 := Try.underlying24
 have HB := am (Below.refl w.heap.size w)
 have H : (if a0_0 = true then (if a0_1 = 0 then (some (a0_2.toList == ([] : List UInt8))) else (some false)) else (if a0_1 ≥ 0 then (if a0_1 < a1 then (some ((a0_2.size : Int) == 64)) else (some false)) else (some false))) = some r := h
 clear h
 by_cases c3 : a0_0 = true
 ·subst c3
  have H1 : (if a0_1 = 0 then (some (a0_2.toList == ([] : List UInt8))) else (some false)) = some r := by rw [if_pos rfl] at H; exact H
  clear H
  have H := H1
  clear H1
  by_cases c4 : a0_1 = 0
  rotate_left
  ·rw [if_neg c4] at H
   have c4b0 : (a0_1 == 0) = false := beq_eq_false_iff_ne.mpr c4
   have c4b1 : (a0_1 != 0) = true := bne_iff_ne.mpr c4
   obtain rfl := Option.some.inj H
   go_enter Try.func41, Try.ntmps41
   go_wp2_with (first | ((with_reducible refine gate_dst (N := 2) rfl ?_); (try (refine gate_guard (by rfl) ?_; dsimp only)); refine box_event ?hg (N := 2) ?hd (cs := #[.bool true, .int .i64 a0_1, .string a0_2]) (t := 24) ?hr ?_; (case hd => rfl); (case hg => rfl); (case hr => first | (go_simp; done) | (go_simp; rfl)); intro gbz1 hg w7 hbox hb; have n0_ := am (below_step (pb HB) hb); have n1_ := am (hbox); have n2_ := ge_ hg (pb HB); have n3_ := ge_ hg (pb HB); clear HB; have HB := n0_; have BKz1 := n1_; have GWz1 := n2_; have GEz1 := n3_; clear n0_ n1_ n2_ n3_; clear hb hbox hg; obtain ⟨hcz8_0, hcz8_1, hcz8_2⟩ := bc3 BKz1; obtain ⟨hfz8_0, hfz8_1, hfz8_2⟩ := bf3 BKz1))
   go_ret
   exact ⟨by first | rfl | (simp <;> rfl) | (simp [*] <;> rfl), by repeat first | (with_reducible first | exact HB.out | apply ba | apply bn | apply bd | refine bs (by assumption) ?_) | exact HB.out⟩
  rw [if_pos c4] at H
  have c4b0 : (a0_1 == 0) = true := beq_iff_eq.mpr c4
  have c4b1 : (a0_1 != 0) = false := bne_eq_false_iff_eq.mpr c4
  clear c4
  obtain rfl := Option.some.inj H
  go_enter Try.func41, Try.ntmps41
  go_wp2_with (first | ((with_reducible refine gate_dst (N := 2) rfl ?_); (try (refine gate_guard (by rfl) ?_; dsimp only)); refine box_event ?hg (N := 2) ?hd (cs := #[.bool true, .int .i64 a0_1, .string a0_2]) (t := 24) ?hr ?_; (case hd => rfl); (case hg => rfl); (case hr => first | (go_simp; done) | (go_simp; rfl)); intro gbz1 hg w5 hbox hb; have n0_ := am (below_step (pb HB) hb); have n1_ := am (hbox); have n2_ := ge_ hg (pb HB); have n3_ := ge_ hg (pb HB); clear HB; have HB := n0_; have BKz1 := n1_; have GWz1 := n2_; have GEz1 := n3_; clear n0_ n1_ n2_ n3_; clear hb hbox hg; obtain ⟨hcz6_0, hcz6_1, hcz6_2⟩ := bc3 BKz1; obtain ⟨hfz6_0, hfz6_1, hfz6_2⟩ := bf3 BKz1))
  go_ret
  exact ⟨by first | rfl | (simp <;> rfl) | (simp [*] <;> rfl), by repeat first | (with_reducible first | exact HB.out | apply ba | apply bn | apply bd | refine bs (by assumption) ?_) | exact HB.out⟩
 replace c3 := Bool.eq_false_iff.mpr c3
 subst c3
 have H1 : (if a0_1 ≥ 0 then (if a0_1 < a1 then (some ((a0_2.size : Int) == 64)) else (some false)) else (some false)) = some r := by rw [if_neg (show ¬ (false = true) by decide)] at H; exact H
 clear H
 have H := H1
 clear H1
 by_cases c9 : a0_1 ≥ 0
 rotate_left
 ·rw [if_neg c9] at H
  have c9b0 : decide (0 ≤ a0_1) = false := decide_eq_false c9
  clear c9
  obtain rfl := Option.some.inj H
  go_enter Try.func41, Try.ntmps41
  go_wp2_with (first | ((with_reducible refine gate_dst (N := 2) rfl ?_); (try (refine gate_guard (by rfl) ?_; dsimp only)); refine box_event ?hg (N := 2) ?hd (cs := #[.bool false, .int .i64 a0_1, .string a0_2]) (t := 24) ?hr ?_; (case hd => rfl); (case hg => rfl); (case hr => first | (go_simp; done) | (go_simp; rfl)); intro gbz1 hg w15 hbox hb; have n0_ := am (below_step (pb HB) hb); have n1_ := am (hbox); have n2_ := ge_ hg (pb HB); have n3_ := ge_ hg (pb HB); clear HB; have HB := n0_; have BKz1 := n1_; have GWz1 := n2_; have GEz1 := n3_; clear n0_ n1_ n2_ n3_; clear hb hbox hg; obtain ⟨hcz16_0, hcz16_1, hcz16_2⟩ := bc3 BKz1; obtain ⟨hfz16_0, hfz16_1, hfz16_2⟩ := bf3 BKz1))
  go_ret
  exact ⟨by first | rfl | (simp <;> rfl) | (simp [*] <;> rfl), by repeat first | (with_reducible first | exact HB.out | apply ba | apply bn | apply bd | refine bs (by assumption) ?_) | exact HB.out⟩
 rw [if_pos c9] at H
 have c9b0 : decide (0 ≤ a0_1) = true := decide_eq_true c9
 clear c9
 by_cases c10 : a0_1 < a1
 ·rw [if_pos c10] at H
  have c10b0 : decide (a0_1 < a1) = true := decide_eq_true c10
  clear c10
  obtain rfl := Option.some.inj H
  go_enter Try.func41, Try.ntmps41
  go_wp2_with (first | ((with_reducible refine gate_dst (N := 2) rfl ?_); (try (refine gate_guard (by rfl) ?_; dsimp only)); refine box_event ?hg (N := 2) ?hd (cs := #[.bool false, .int .i64 a0_1, .string a0_2]) (t := 24) ?hr ?_; (case hd => rfl); (case hg => rfl); (case hr => first | (go_simp; done) | (go_simp; rfl)); intro gbz1 hg w11 hbox hb; have n0_ := am (below_step (pb HB) hb); have n1_ := am (hbox); have n2_ := ge_ hg (pb HB); have n3_ := ge_ hg (pb HB); clear HB; have HB := n0_; have BKz1 := n1_; have GWz1 := n2_; have GEz1 := n3_; clear n0_ n1_ n2_ n3_; clear hb hbox hg; obtain ⟨hcz12_0, hcz12_1, hcz12_2⟩ := bc3 BKz1; obtain ⟨hfz12_0, hfz12_1, hfz12_2⟩ := bf3 BKz1))
  go_ret
  exact ⟨by first | rfl | (simp <;> rfl) | (simp [*] <;> rfl), by repeat first | (with_reducible first | exact HB.out | apply ba | apply bn | apply bd | refine bs (by assumption) ?_) | exact HB.out⟩
 rw [if_neg c10] at H
 have c10b0 : decide (a0_1 < a1) = false := decide_eq_false c10
 clear c10
 obtain rfl := Option.some.inj H
 go_enter Try.func41, Try.ntmps41
 go_wp2_with (first | ((with_reducible refine gate_dst (N := 2) rfl ?_); (try (refine gate_guard (by rfl) ?_; dsimp only)); refine box_event ?hg (N := 2) ?hd (cs := #[.bool false, .int .i64 a0_1, .string a0_2]) (t := 24) ?hr ?_; (case hd => rfl); (case hg => rfl); (case hr => first | (go_simp; done) | (go_simp; rfl)); intro gbz1 hg w13 hbox hb; have n0_ := am (below_step (pb HB) hb); have n1_ := am (hbox); have n2_ := ge_ hg (pb HB); have n3_ := ge_ hg (pb HB); clear HB; have HB := n0_; have BKz1 := n1_; have GWz1 := n2_; have GEz1 := n3_; clear n0_ n1_ n2_ n3_; clear hb hbox hg; obtain ⟨hcz14_0, hcz14_1, hcz14_2⟩ := bc3 BKz1; obtain ⟨hfz14_0, hfz14_1, hfz14_2⟩ := bf3 BKz1))
 go_ret
 exact ⟨by first | rfl | (simp <;> rfl) | (simp [*] <;> rfl), by repeat first | (with_reducible first | exact HB.out | apply ba | apply bn | apply bd | refine bs (by assumption) ?_) | exact HB.out⟩
end Go.Proofs.Ytcfinlmocgbnbaa.Pr
end
section
namespace Go.Proofs.Ytcfinlmocgbnbaa.Pr
open Go.Proofs.Ytcfinlmocgbnbaa.Sq Go.RowKit Go.Proofs.YtcfinlmocgbnbaaW.PrintWords Go.Proofs.YtcfinlmocgbnbaaW.PrintLast Go.Proofs.YtcfinlmocgbnbaaW.PrintMore
attribute [local go_sem] max2_int min2_int max_two min_two max_three min_three max_four min_four
set_option linter.unusedVariables false
set_option linter.unusedSimpArgs false
mutual
def columbariumref14_Right.j0 : Nat → Bool → List ByteArray → List (S24) → Option (Bool)
 | 0, _, _, _ => none
 | k + 1, x20, xz2000, xz2001 => if x20 = true then (some false) else (columbariumref14_Right.l0 k 0 xz2000 xz2001)
def columbariumref14_Right.l0 : Nat → Int → List ByteArray → List (S24) → Option (Bool)
 | 0, _, _, _ => none
 | k + 1, x3, xz2000, xz2001 => if x3 < (xz2000.length : Int) then (if 0 ≤ x3 then (if ((rdOf ByteArray.empty xz2000 x3).size : Int) = 64 then (columbariumref14_Right.l0 k (wrap64 (x3 + 1)) xz2000 xz2001) else (some false)) else (none)) else (columbariumref14_Right.l1 k 0 xz2000 xz2001)
def columbariumref14_Right.l1 : Nat → Int → List ByteArray → List (S24) → Option (Bool)
 | 0, _, _, _ => none
 | k + 1, x4, xz2000, xz2001 => if x4 < (xz2001.length : Int) then (if 0 ≤ x4 then (if (rd_T24 xz2001 x4).f0 = true then (some false) else ((columbariumref14_may.f ((rd_T24 xz2001 x4).f0) ((rd_T24 xz2001 x4).f1) ((rd_T24 xz2001 x4).f2) (xz2000.length : Int)).bind fun tz5 => (if tz5 = true then (columbariumref14_Right.l1 k (wrap64 (x4 + 1)) xz2000 xz2001) else (some false)))) else (none)) else (some true)
end
def columbariumref14_Right.f (k : Nat) (l0_0 : List ByteArray) (l0_1 : List (S24)) : Option (Bool) := if (l0_0.length : Int) < 1 then (columbariumref14_Right.j0 k true l0_0 l0_1) else (if (l0_0.length : Int) > 400 then (columbariumref14_Right.j0 k true l0_0 l0_1) else (columbariumref14_Right.j0 k (decide ((l0_1.length : Int) > 3000)) l0_0 l0_1))
def columbariumref14_Right.T11 : Bool × List (List Nat × List Nat) := (true, [([], []), ([0], [0]), ([], []), ([1, 2], [1, 2]), ([3], [3]), ([4], [4]), ([5], [5]), ([6], [6]), ([7, 6], [6, 7]), ([6], [6]), ([8, 9, 6], [6, 8, 9]), ([10, 6], [6, 10]), ([6], [6]), ([12, 6], [6, 12]), ([13, 6], [6, 13]), ([11, 14, 6, 6], [6, 11, 14]), ([15, 6], [6, 15]), ([6, 16], [6, 16])])
def columbariumref14_Right.B11 : List Nat := [0, 1, 0, 7, 15, 31, 63, 127, 255, 127, 1023, 2047, 127, 4223, 12415, 32767, 65535, 131071]
theorem columbariumref14_Right.tab11 : rtab .any (opsOf Try.f21 11) = columbariumref14_Right.T11 := by kernel_rfl
theorem columbariumref14_Right.bits11 : waitsOk columbariumref14_Right.T11.2 columbariumref14_Right.B11 = true := by kernel_rfl
set_option maxHeartbeats 8000000 in
set_option maxRecDepth 100000 in
theorem columbariumref14_Right.calls (k : Nat) (A0_0 : Option Addr) (c0_0 : Nat) (l0_0 : List ByteArray) (A0_1 : Option Addr) (c0_1 : Nat) (l0_1 : List (S24)) (r : Bool) (w : World) (hr0_0 : Kd.C Kd.string w A0_0 l0_0.length l0_0) (hc0_0 : l0_0.length ≤ c0_0) (hr0_1 : Kd.C k24 w A0_1 l0_1.length l0_1) (hc0_1 : l0_1.length ≤ c0_1) (h : columbariumref14_Right.f k l0_0 l0_1 = some r) :
  Calls Try.prog 21 #[.agg #[.slice A0_0 l0_0.length c0_0, .slice A0_1 l0_1.length c0_1]] w fun e w' => e = .returned (.bool r) ∧ Below w.heap.size w w' := by
 have hu30 := Try.underlying30
 have hu24 := Try.underlying24
 have HR0_0 := am hr0_0
 have HC0_0 := am hc0_0
 clear hr0_0 hc0_0
 have HR0_1 := am hr0_1
 have HC0_1 := am hc0_1
 clear hr0_1 hc0_1
 have HB := am (Below.refl w.heap.size w)
 have H : (if (l0_0.length : Int) < 1 then (columbariumref14_Right.j0 k true l0_0 l0_1) else (if (l0_0.length : Int) > 400 then (columbariumref14_Right.j0 k true l0_0 l0_1) else (columbariumref14_Right.j0 k (decide ((l0_1.length : Int) > 3000)) l0_0 l0_1))) = some r := h
 clear h
 have HC2 := am H
 clear H
 go_enter Try.func21, Try.ntmps21
 go_upto_region 1 with (first | ((with_reducible refine gate_dst (N := 1) rfl ?_); (try (refine gate_guard (by rfl) ?_; dsimp only)); refine box_event ?hg (N := 1) ?hd (cs := #[.slice A0_0 l0_0.length c0_0, .slice A0_1 l0_1.length c0_1]) (t := 30) ?hr ?_; (case hd => rfl); (case hg => rfl); (case hr => first | (go_simp; done) | (go_simp; rfl)); intro gbz1 hg w3 hbox hb; have n0_ := am (below_step (pb HB) hb); have n1_ := am (hbox); have n2_ := ge_ hg (pb HB); have n3_ := ge_ hg (pb HB); clear HB; have HB := n0_; have BKz1 := n1_; have GWz1 := n2_; have GEz1 := n3_; clear n0_ n1_ n2_ n3_; clear hb hbox hg))
 (try simp only [Act.put, List.setIfInBounds_toArray, List.set_cons_zero, List.set_cons_succ])
 go_cut [20] (fun v20 wc => ∃ (kq : Nat) (x20_1 : Bool), v20 = .bool x20_1 ∧ Aside0 (columbariumref14_Right.j0 kq x20_1 l0_0 l0_1 = some r) ∧ Aside0 (kq ≤ k) ∧ Aside0 (wc.heap[gbz1]? = some (.cells #[(.slice A0_0 l0_0.length c0_0), (.slice A0_1 l0_1.length c0_1)] 30 (0, 0))) ∧ Aside0 (Below w.heap.size w wc))
 case first =>
  have H := HC2.out
  clear HC2
  by_cases c4 : (l0_0.length : Int) < 1
  ·rw [if_pos c4] at H
   have c4b0 : decide ((l0_0.length : Int) < 1) = true := decide_eq_true c4
   have c4b1 : decide (l0_0.length < 1) = true := decide_eq_true (by omega)
   clear c4
   (first | rw [c4b0] | rw [c4b1] | (simp only [i64_w, i32_w]; rw [c4b0]) | skip)
   have H' := am H
   clear H
   obtain ⟨hcz5_0, hcz5_1⟩ := bc2 BKz1
   obtain ⟨hfz5_0, hfz5_1⟩ := bf2 BKz1
   go_wp2
   go_meet
   case rel => exact ⟨_, (true), (by first | rfl | (simp; done) | (simp [*]; done)), H', ⟨by first | omega | exact Nat.le_refl _⟩, ⟨by (with_reducible repeat (first | refine blk_drewN ?_ _ | refine bkD ?_ | refine bkA ?_ _)); exact BKz1.out⟩, ⟨by repeat first | (with_reducible first | exact HB.out | apply ba | apply bn | apply bd | refine bs (by assumption) ?_) | exact HB.out⟩⟩
  rw [if_neg c4] at H
  have c4b0 : decide ((l0_0.length : Int) < 1) = false := decide_eq_false c4
  have c4b1 : decide (l0_0.length < 1) = false := decide_eq_false (by omega)
  clear c4
  (first | rw [c4b0] | rw [c4b1] | (simp only [i64_w, i32_w]; rw [c4b0]) | skip)
  by_cases c6 : (l0_0.length : Int) > 400
  ·rw [if_pos c6] at H
   have c6b0 : decide (400 < (l0_0.length : Int)) = true := decide_eq_true c6
   have c6b1 : decide (400 < l0_0.length) = true := decide_eq_true (by omega)
   clear c6
   have H' := am H
   clear H
   obtain ⟨hcz7_0, hcz7_1⟩ := bc2 BKz1
   obtain ⟨hfz7_0, hfz7_1⟩ := bf2 BKz1
   go_wp2
   go_meet
   case rel => exact ⟨_, (true), (by first | rfl | (simp; done) | (simp [*]; done)), H', ⟨by first | omega | exact Nat.le_refl _⟩, ⟨by (with_reducible repeat (first | refine blk_drewN ?_ _ | refine bkD ?_ | refine bkA ?_ _)); exact BKz1.out⟩, ⟨by repeat first | (with_reducible first | exact HB.out | apply ba | apply bn | apply bd | refine bs (by assumption) ?_) | exact HB.out⟩⟩
  rw [if_neg c6] at H
  have c6b0 : decide (400 < (l0_0.length : Int)) = false := decide_eq_false c6
  have c6b1 : decide (400 < l0_0.length) = false := decide_eq_false (by omega)
  clear c6
  have H' := am H
  clear H
  obtain ⟨hcz8_0, hcz8_1⟩ := bc2 BKz1
  obtain ⟨hfz8_0, hfz8_1⟩ := bf2 BKz1
  go_wp2
  go_meet
  case rel => exact ⟨_, (decide ((l0_1.length : Int) > 3000)), (by first | rfl | (simp; done) | (simp [*]; done)), H', ⟨by first | omega | exact Nat.le_refl _⟩, ⟨by (with_reducible repeat (first | refine blk_drewN ?_ _ | refine bkD ?_ | refine bkA ?_ _)); exact BKz1.out⟩, ⟨by repeat first | (with_reducible first | exact HB.out | apply ba | apply bn | apply bd | refine bs (by assumption) ?_) | exact HB.out⟩⟩
 clear HC2
 try clear c2
 try clear p2
 try clear c4
 try clear c4b0
 try clear c4b1
 try clear c6
 try clear c6b0
 try clear c6b1
 try clear hcz5_0
 try clear hcz5_1
 try clear hcz7_0
 try clear hcz7_1
 try clear hcz8_0
 try clear hcz8_1
 try clear hfz5_0
 try clear hfz5_1
 try clear hfz7_0
 try clear hfz7_1
 try clear hfz8_0
 try clear hfz8_1
 obtain ⟨kq, x20_1, rfl, HA, HJ1, BKz1, HB⟩ := hcut
 cases kq with
 | zero => exact absurd HA.out (by simp [columbariumref14_Right.j0])
 | succ kj1 => ?_
 have H := HA.out
 clear HA
 simp only [columbariumref14_Right.j0] at H
 by_cases c9 : x20_1 = true
 ·subst c9
  have H1 : (some false) = some r := by rw [if_pos rfl] at H; exact H
  clear H
  have H := H1
  clear H1
  obtain rfl := Option.some.inj H
  go_wp2
  go_ret
  exact ⟨by first | rfl | (simp <;> rfl) | (simp [*] <;> rfl), by repeat first | (with_reducible first | exact HB.out | apply ba | apply bn | apply bd | refine bs (by assumption) ?_) | exact HB.out⟩
 replace c9 := Bool.eq_false_iff.mpr c9
 subst c9
 have H1 : (columbariumref14_Right.l0 kj1 0 l0_0 l0_1) = some r := by rw [if_neg (show ¬ (false = true) by decide)] at H; exact H
 clear H
 have H := H1
 clear H1
 have H' := am H
 clear H
 go_wp2
 go_loopg [3] kj1 (fun kq v3 w' => ∃ (x3_2 : Int), v3 = .int .i64 x3_2 ∧ Aside0 (columbariumref14_Right.l0 kq x3_2 l0_0 l0_1 = some r) ∧ Aside0 (kq ≤ kj1) ∧ Aside0 (w'.heap[gbz1]? = some (.cells #[(.slice A0_0 l0_0.length c0_0), (.slice A0_1 l0_1.length c0_1)] 30 (0, 0))) ∧ Aside0 (Below w.heap.size w w'))
 case atStart => exact ⟨(0), (by first | rfl | (simp; done) | (simp [*]; done)), H', ⟨Nat.le_refl _⟩, ⟨by (with_reducible repeat (first | refine blk_drewN ?_ _ | refine bkD ?_ | refine bkA ?_ _)); exact BKz1.out⟩, ⟨by repeat first | (with_reducible first | exact HB.out | apply ba | apply bn | apply bd | refine bs (by assumption) ?_) | exact HB.out⟩⟩
 clear H'
 try clear c2
 try clear p2
 try clear c4
 try clear c4b0
 try clear c4b1
 try clear c6
 try clear c6b0
 try clear c6b1
 try clear c9
 try clear hcz5_0
 try clear hcz5_1
 try clear hcz7_0
 try clear hcz7_1
 try clear hcz8_0
 try clear hcz8_1
 try clear hfz5_0
 try clear hfz5_1
 try clear hfz7_0
 try clear hfz7_1
 try clear hfz8_0
 try clear hfz8_1
 try clear p2
 obtain ⟨x3_2, rfl, HA, HK2, BKz1, HB⟩ := hrel
 cases gk with
 | zero => exact absurd HA.out (by simp [columbariumref14_Right.l0])
 | succ k2 => ?_
 have H := HA.out
 clear HA
 simp only [columbariumref14_Right.l0] at H
 by_cases c10 : x3_2 < (l0_0.length : Int)
 ·rw [if_pos c10] at H
  have c10b0 : decide (x3_2 < (l0_0.length : Int)) = true := decide_eq_true c10
  clear c10
  by_cases c11 : 0 ≤ x3_2
  rotate_left
  ·rw [if_neg c11] at H
   exact absurd H (by simp)
  rw [if_pos c11] at H
  have c11b0 : decide (0 ≤ x3_2) = true := decide_eq_true c11
  clear c11
  by_cases c12 : ((rdOf ByteArray.empty l0_0 x3_2).size : Int) = 64
  rotate_left
  ·rw [if_neg c12] at H
   have c12b0 : (((rdOf ByteArray.empty l0_0 x3_2).size : Int) == 64) = false := beq_eq_false_iff_ne.mpr c12
   have c12b1 : (((rdOf ByteArray.empty l0_0 x3_2).size : Int) != 64) = true := bne_iff_ne.mpr c12
   obtain rfl := Option.some.inj H
   obtain ⟨hcz14_0, hcz14_1⟩ := bc2 BKz1
   obtain ⟨hfz14_0, hfz14_1⟩ := bf2 BKz1
   have pz2 : 0 ≤ (x3_2 : Int) := of_decide_eq_true (by first | (with_reducible assumption) | assumption)
   have qz2 : x3_2 < (l0_0.length : Int) := of_decide_eq_true (by first | (with_reducible assumption) | assumption)
   obtain ⟨adz2, ez2, hxz2_0⟩ := Kd.at_string HR0_0.out x3_2 pz2 qz2
   cases ez2
   replace hxz2_0 := (HB.out.cell (World.block_lt_of_cell? w _ hxz2_0)).trans hxz2_0
   replace pz2 := eq_true pz2
   replace qz2 := eq_true qz2
   go_wp2
   go_ret
   exact ⟨by first | rfl | (simp <;> rfl) | (simp [*] <;> rfl), by repeat first | (with_reducible first | exact HB.out | apply ba | apply bn | apply bd | refine bs (by assumption) ?_) | exact HB.out⟩
  rw [if_pos c12] at H
  have c12b0 : (((rdOf ByteArray.empty l0_0 x3_2).size : Int) == 64) = true := beq_iff_eq.mpr c12
  have c12b1 : (((rdOf ByteArray.empty l0_0 x3_2).size : Int) != 64) = false := bne_eq_false_iff_eq.mpr c12
  clear c12
  have H' := am H
  clear H
  obtain ⟨hcz13_0, hcz13_1⟩ := bc2 BKz1
  obtain ⟨hfz13_0, hfz13_1⟩ := bf2 BKz1
  have pz2 : 0 ≤ (x3_2 : Int) := of_decide_eq_true (by first | (with_reducible assumption) | assumption)
  have qz2 : x3_2 < (l0_0.length : Int) := of_decide_eq_true (by first | (with_reducible assumption) | assumption)
  obtain ⟨adz2, ez2, hxz2_0⟩ := Kd.at_string HR0_0.out x3_2 pz2 qz2
  cases ez2
  replace hxz2_0 := (HB.out.cell (World.block_lt_of_cell? w _ hxz2_0)).trans hxz2_0
  replace pz2 := eq_true pz2
  replace qz2 := eq_true qz2
  go_wp2
  go_roundg k2
  case measure => have := HJ1.out; have := HK2.out; omega
  case rel => exact ⟨(wrap64 (x3_2 + 1)), (by first | rfl | (simp; done) | (simp [*]; done)), H', ⟨by have := HJ1.out; have := HK2.out; omega⟩, ⟨by (with_reducible repeat (first | refine blk_drewN ?_ _ | refine bkD ?_ | refine bkA ?_ _)); exact BKz1.out⟩, ⟨by repeat first | (with_reducible first | exact HB.out | apply ba | apply bn | apply bd | refine bs (by assumption) ?_) | exact HB.out⟩⟩
 rw [if_neg c10] at H
 have c10b0 : decide (x3_2 < (l0_0.length : Int)) = false := decide_eq_false c10
 clear c10
 have H' := am H
 clear H
 obtain ⟨hcz15_0, hcz15_1⟩ := bc2 BKz1
 obtain ⟨hfz15_0, hfz15_1⟩ := bf2 BKz1
 go_wp2
 go_loopg [4] k2 (fun kq v4 w' => ∃ (x4_3 : Int), v4 = .int .i64 x4_3 ∧ Aside0 (columbariumref14_Right.l1 kq x4_3 l0_0 l0_1 = some r) ∧ Aside0 (kq ≤ k2) ∧ Aside0 (w'.heap[gbz1]? = some (.cells #[(.slice A0_0 l0_0.length c0_0), (.slice A0_1 l0_1.length c0_1)] 30 (0, 0))) ∧ Aside0 (Below w.heap.size w w'))
 case atStart => exact ⟨(0), (by first | rfl | (simp; done) | (simp [*]; done)), H', ⟨Nat.le_refl _⟩, ⟨by (with_reducible repeat (first | refine blk_drewN ?_ _ | refine bkD ?_ | refine bkA ?_ _)); exact BKz1.out⟩, ⟨by repeat first | (with_reducible first | exact HB.out | apply ba | apply bn | apply bd | refine bs (by assumption) ?_) | exact HB.out⟩⟩
 clear H'
 try clear c1
 try clear c2
 try clear p2
 try clear q2
 try clear hx2
 try clear c4
 try clear c4b0
 try clear c4b1
 try clear c6
 try clear c6b0
 try clear c6b1
 try clear p6
 try clear c9
 try clear c10
 try clear c10b0
 try clear c11
 try clear c11b0
 try clear c12
 try clear c12b0
 try clear c12b1
 try clear hcz13_0
 try clear hcz13_1
 try clear hcz14_0
 try clear hcz14_1
 try clear hcz15_0
 try clear hcz15_1
 try clear hcz5_0
 try clear hcz5_1
 try clear hcz7_0
 try clear hcz7_1
 try clear hcz8_0
 try clear hcz8_1
 try clear hfz13_0
 try clear hfz13_1
 try clear hfz14_0
 try clear hfz14_1
 try clear hfz15_0
 try clear hfz15_1
 try clear hfz5_0
 try clear hfz5_1
 try clear hfz7_0
 try clear hfz7_1
 try clear hfz8_0
 try clear hfz8_1
 try clear hxz2_0
 try clear p2
 try clear pz2
 try clear qz2
 obtain ⟨x4_3, rfl, HA, HK3, BKz1, HB⟩ := hrel
 cases gk with
 | zero => exact absurd HA.out (by simp [columbariumref14_Right.l1])
 | succ k3 => ?_
 have H := HA.out
 clear HA
 simp only [columbariumref14_Right.l1] at H
 by_cases c16 : x4_3 < (l0_1.length : Int)
 rotate_left
 ·rw [if_neg c16] at H
  have c16b0 : decide (x4_3 < (l0_1.length : Int)) = false := decide_eq_false c16
  clear c16
  obtain rfl := Option.some.inj H
  obtain ⟨hcz30_0, hcz30_1⟩ := bc2 BKz1
  obtain ⟨hfz30_0, hfz30_1⟩ := bf2 BKz1
  go_wp2
  go_ret
  exact ⟨by first | rfl | (simp <;> rfl) | (simp [*] <;> rfl), by repeat first | (with_reducible first | exact HB.out | apply ba | apply bn | apply bd | refine bs (by assumption) ?_) | exact HB.out⟩
 rw [if_pos c16] at H
 have c16b0 : decide (x4_3 < (l0_1.length : Int)) = true := decide_eq_true c16
 clear c16
 by_cases c17 : 0 ≤ x4_3
 rotate_left
 ·rw [if_neg c17] at H
  exact absurd H (by simp)
 rw [if_pos c17] at H
 have c17b0 : decide (0 ≤ x4_3) = true := decide_eq_true c17
 clear c17
 obtain ⟨bq18, hbq18⟩ : ∃ b_ : Bool, b_ = ((rd_T24 l0_1 x4_3).f0) := ⟨_, rfl⟩
 replace H : (if bq18 = true then (some false) else ((columbariumref14_may.f (bq18) ((rd_T24 l0_1 x4_3).f1) ((rd_T24 l0_1 x4_3).f2) (l0_0.length : Int)).bind fun tz5 => (if tz5 = true then (columbariumref14_Right.l1 k3 (wrap64 (x4_3 + 1)) l0_0 l0_1) else (some false)))) = some r := by rw [← hbq18] at H; exact H
 have Nbq18 := am hbq18
 clear hbq18
 by_cases c19 : bq18 = true
 ·subst c19
  have H1 : (some false) = some r := by rw [if_pos rfl] at H; exact H
  clear H
  have H := H1
  clear H1
  obtain rfl := Option.some.inj H
  obtain ⟨hcz20_0, hcz20_1⟩ := bc2 BKz1
  obtain ⟨hfz20_0, hfz20_1⟩ := bf2 BKz1
  try go_wp2
  have n0_ := am (bkD BKz1.out)
  have n1_ := am (below_drew1 HB.out)
  clear BKz1 HB; have BKz1 := n0_; have HB := n1_; clear n0_ n1_
  have pz3 : 0 ≤ (x4_3 : Int) := of_decide_eq_true (by first | (with_reducible assumption) | assumption)
  have qz3 : x4_3 < (l0_1.length : Int) := of_decide_eq_true (by first | (with_reducible assumption) | assumption)
  obtain ⟨adz3, ez3, hxz3_0, hxz3_1, hxz3_2⟩ := at_T24 HR0_1.out x4_3 pz3 qz3
  have hwz3_2 := hxz3_2
  have hwz3_1 := hxz3_1
  have hwz3_0 := hxz3_0
  (try rw [← Nbq18.out] at hxz3_0); (try rw [← Nbq18.out] at hwz3_0)
  cases ez3
  replace hxz3_0 := (HB.out.cell (World.block_lt_of_cell? w _ hxz3_0)).trans hxz3_0
  replace hxz3_1 := (HB.out.cell (World.block_lt_of_cell? w _ hxz3_1)).trans hxz3_1
  replace hxz3_2 := (HB.out.cell (World.block_lt_of_cell? w _ hxz3_2)).trans hxz3_2
  replace pz3 := eq_true pz3
  replace qz3 := eq_true qz3
  refine start_ (n := 18) (S := fun w' => w'.cell? ⟨gbz1, 0, none⟩ = some (.slice A0_0 l0_0.length c0_0) ∧ w'.cell? ⟨gbz1, 1, none⟩ = some (.slice (some adz3) l0_1.length c0_1) ∧ w'.cell? (adz3.add ((x4_3).toNat * 3)) = some (.bool true) ∧ w'.cell? ⟨(adz3.add ((x4_3).toNat * 3)).block, (adz3.add ((x4_3).toNat * 3)).off + 1, none⟩ = some (.int .i64 ((rd_T24 l0_1 x4_3).f1)) ∧ w'.cell? ⟨(adz3.add ((x4_3).toNat * 3)).block, (adz3.add ((x4_3).toNat * 3)).off + 2, none⟩ = some (.string ((rd_T24 l0_1 x4_3).f2))) (ds := []) #[false, false, false, false, false, false, false, false, false, false, false, false, false, false, false, false, false, false] (by kernel_rfl) rfl rfl ⟨(blk_cell BKz1.out 0).trans rfl, (blk_cell BKz1.out 1).trans rfl, ((HB.out.cell (World.block_lt_of_cell? w _ hwz3_0)).trans hwz3_0), ((HB.out.cell (World.block_lt_of_cell? w _ hwz3_1)).trans hwz3_1), ((HB.out.cell (World.block_lt_of_cell? w _ hwz3_2)).trans hwz3_2)⟩ (fun hHeld => ?_); refine with_tabW columbariumref14_Right.tab11 columbariumref14_Right.bits11 (fun HT_ HW_ => ?_)
  generalize wr.drew = w21 at BKz1 HB hxz3_0 hxz3_1 hxz3_2 hHeld ⊢
  refine pu_ 0 (some 42) HT_ rfl rfl (.inl ⟨by rfl, by intro w'; go_simp; with_reducible rfl⟩) (by simp only [Act.put, sa_, s0_, s1_, i64_w, i32_w]; rfl) ?_
  refine pu_ 2 (some 44) HT_ rfl rfl (.inl ⟨by rfl, by intro w'; go_simp; with_reducible rfl⟩) (by simp only [Act.put, sa_, s0_, s1_, i64_w, i32_w]; rfl) ?_
  refine tk_ 1 (some 43) HT_ HW_ rfl rfl (.inl ⟨by rfl, by rintro w' ⟨s0, s1, s2, s3, s4⟩; go_simp; with_reducible rfl⟩) hHeld (by simp only [Act.put, sa_, s0_, s1_, i64_w, i32_w]; rfl) ?_
  refine pu_ 3 (some 45) HT_ rfl rfl (.inl ⟨by rfl, by intro w'; go_simp; with_reducible rfl⟩) (by simp only [Act.put, sa_, s0_, s1_, i64_w, i32_w]; rfl) ?_
  refine pu_ 4 (some 46) HT_ rfl rfl (.inl ⟨by rfl, by intro w'; go_simp; with_reducible rfl⟩) (by simp only [Act.put, sa_, s0_, s1_, i64_w, i32_w]; rfl) ?_
  refine tk_ 5 (some 47) HT_ HW_ rfl rfl (.inl ⟨by rfl, by rintro w' ⟨s0, s1, s2, s3, s4⟩; go_simp; with_reducible rfl⟩) hHeld (by simp only [Act.put, sa_, s0_, s1_, i64_w, i32_w]; rfl) ?_
  refine pu_ 6 (some 48) HT_ rfl rfl (.inl ⟨by rfl, by intro w'; go_simp; with_reducible rfl⟩) (by simp only [Act.put, sa_, s0_, s1_, i64_w, i32_w]; rfl) ?_
  refine pu_ (v := undef) 7 (some 49) HT_ rfl rfl (.inr ⟨by rfl, rfl⟩) (by simp only [Act.put, sa_, s0_, s1_, i64_w, i32_w]; rfl) ?_
  refine pu_ (v := undef) 8 (some 50) HT_ rfl rfl (.inr ⟨by rfl, rfl⟩) (by simp only [Act.put, sa_, s0_, s1_, i64_w, i32_w]; rfl) ?_
  refine pu_ (v := undef) 9 (some 51) HT_ rfl rfl (.inr ⟨by rfl, rfl⟩) (by simp only [Act.put, sa_, s0_, s1_, i64_w, i32_w]; rfl) ?_
  refine pu_ (v := undef) 10 (some 52) HT_ rfl rfl (.inr ⟨by rfl, rfl⟩) (by simp only [Act.put, sa_, s0_, s1_, i64_w, i32_w]; rfl) ?_
  refine pu_ (v := undef) 11 (some 53) HT_ rfl rfl (.inr ⟨by rfl, rfl⟩) (by simp only [Act.put, sa_, s0_, s1_, i64_w, i32_w]; rfl) ?_
  refine pu_ (v := undef) 12 (some 54) HT_ rfl rfl (.inr ⟨by rfl, rfl⟩) (by simp only [Act.put, sa_, s0_, s1_, i64_w, i32_w]; rfl) ?_
  refine pu_ (v := undef) 13 (some 55) HT_ rfl rfl (.inr ⟨by rfl, rfl⟩) (by simp only [Act.put, sa_, s0_, s1_, i64_w, i32_w]; rfl) ?_
  refine pu_ (v := undef) 14 (some 56) HT_ rfl rfl (.inr ⟨by rfl, rfl⟩) (by simp only [Act.put, sa_, s0_, s1_, i64_w, i32_w]; rfl) ?_
  refine pu_ (v := undef) 15 (some 57) HT_ rfl rfl (.inr ⟨by rfl, rfl⟩) (by simp only [Act.put, sa_, s0_, s1_, i64_w, i32_w]; rfl) ?_
  refine pu_ (v := undef) 16 (some 58) HT_ rfl rfl (.inr ⟨by rfl, rfl⟩) (by simp only [Act.put, sa_, s0_, s1_, i64_w, i32_w]; rfl) ?_
  refine pu_ 17 (some 59) HT_ rfl rfl (.inl ⟨by rfl, by intro w'; go_simp; with_reducible rfl⟩) (by simp only [Act.put, sa_, s0_, s1_, i64_w, i32_w]; rfl) ?_
  refine done_ (done_of HT_.out (by kernel_rfl)) ?_
  try go_wp2
  go_ret
  exact ⟨by first | rfl | (simp <;> rfl) | (simp [*] <;> rfl), by repeat first | (with_reducible first | exact HB.out | apply ba | apply bn | apply bd | refine bs (by assumption) ?_) | exact HB.out⟩
 replace c19 := Bool.eq_false_iff.mpr c19
 subst c19
 have H1 : ((columbariumref14_may.f (false) ((rd_T24 l0_1 x4_3).f1) ((rd_T24 l0_1 x4_3).f2) (l0_0.length : Int)).bind fun tz5 => (if tz5 = true then (columbariumref14_Right.l1 k3 (wrap64 (x4_3 + 1)) l0_0 l0_1) else (some false))) = some r := by rw [if_neg (show ¬ (false = true) by decide)] at H; exact H
 clear H
 have H := H1
 clear H1
 replace H := ob_ H
 obtain ⟨tz5, A220, H⟩ := H
 replace H : (if tz5 = true then (columbariumref14_Right.l1 k3 (wrap64 (x4_3 + 1)) l0_0 l0_1) else (some false)) = some r := H
 have A22 := Aside0.mk A220
 clear A220
 by_cases c23 : tz5 = true
 rotate_left
 ·replace c23 := Bool.eq_false_iff.mpr c23
  subst c23
  have H1 : (some false) = some r := by rw [if_neg (show ¬ (false = true) by decide)] at H; exact H
  clear H
  have H := H1
  clear H1
  obtain rfl := Option.some.inj H
  obtain ⟨hcz27_0, hcz27_1⟩ := bc2 BKz1
  obtain ⟨hfz27_0, hfz27_1⟩ := bf2 BKz1
  try go_wp2
  have n0_ := am (bkD BKz1.out)
  have n1_ := am (below_drew1 HB.out)
  clear BKz1 HB; have BKz1 := n0_; have HB := n1_; clear n0_ n1_
  have pz3 : 0 ≤ (x4_3 : Int) := of_decide_eq_true (by first | (with_reducible assumption) | assumption)
  have qz3 : x4_3 < (l0_1.length : Int) := of_decide_eq_true (by first | (with_reducible assumption) | assumption)
  obtain ⟨adz3, ez3, hxz3_0, hxz3_1, hxz3_2⟩ := at_T24 HR0_1.out x4_3 pz3 qz3
  have hwz3_2 := hxz3_2
  have hwz3_1 := hxz3_1
  have hwz3_0 := hxz3_0
  (try rw [← Nbq18.out] at hxz3_0); (try rw [← Nbq18.out] at hwz3_0)
  cases ez3
  replace hxz3_0 := (HB.out.cell (World.block_lt_of_cell? w _ hxz3_0)).trans hxz3_0
  replace hxz3_1 := (HB.out.cell (World.block_lt_of_cell? w _ hxz3_1)).trans hxz3_1
  replace hxz3_2 := (HB.out.cell (World.block_lt_of_cell? w _ hxz3_2)).trans hxz3_2
  replace pz3 := eq_true pz3
  replace qz3 := eq_true qz3
  have pz4 : 0 ≤ (x4_3 : Int) := of_decide_eq_true (by first | (with_reducible assumption) | assumption)
  have qz4 : x4_3 < (l0_1.length : Int) := of_decide_eq_true (by first | (with_reducible assumption) | assumption)
  obtain ⟨adz4, ez4, hxz4_0, hxz4_1, hxz4_2⟩ := at_T24 HR0_1.out x4_3 pz4 qz4
  have hwz4_2 := hxz4_2
  have hwz4_1 := hxz4_1
  have hwz4_0 := hxz4_0
  (try rw [← Nbq18.out] at hxz4_0); (try rw [← Nbq18.out] at hwz4_0)
  obtain rfl : adz3 = adz4 := (by injection ez4)
  replace hxz4_0 := (HB.out.cell (World.block_lt_of_cell? w _ hxz4_0)).trans hxz4_0
  replace hxz4_1 := (HB.out.cell (World.block_lt_of_cell? w _ hxz4_1)).trans hxz4_1
  replace hxz4_2 := (HB.out.cell (World.block_lt_of_cell? w _ hxz4_2)).trans hxz4_2
  replace pz4 := eq_true pz4
  replace qz4 := eq_true qz4
  refine start_ (n := 18) (S := fun w' => w'.cell? ⟨gbz1, 0, none⟩ = some (.slice A0_0 l0_0.length c0_0) ∧ w'.cell? ⟨gbz1, 1, none⟩ = some (.slice (some adz3) l0_1.length c0_1) ∧ w'.cell? (adz3.add ((x4_3).toNat * 3)) = some (.bool false) ∧ w'.cell? ⟨(adz3.add ((x4_3).toNat * 3)).block, (adz3.add ((x4_3).toNat * 3)).off + 1, none⟩ = some (.int .i64 ((rd_T24 l0_1 x4_3).f1)) ∧ w'.cell? ⟨(adz3.add ((x4_3).toNat * 3)).block, (adz3.add ((x4_3).toNat * 3)).off + 2, none⟩ = some (.string ((rd_T24 l0_1 x4_3).f2)) ∧ w'.cell? (adz3.add ((x4_3).toNat * 3)) = some (.bool (false)) ∧ w'.cell? ⟨(adz3.add ((x4_3).toNat * 3)).block, (adz3.add ((x4_3).toNat * 3)).off + 1, none⟩ = some (.int .i64 ((rd_T24 l0_1 x4_3).f1)) ∧ w'.cell? ⟨(adz3.add ((x4_3).toNat * 3)).block, (adz3.add ((x4_3).toNat * 3)).off + 2, none⟩ = some (.string ((rd_T24 l0_1 x4_3).f2))) (ds := []) #[false, false, false, false, false, false, false, false, false, false, false, false, false, false, false, false, false, false] (by kernel_rfl) rfl rfl ⟨(blk_cell BKz1.out 0).trans rfl, (blk_cell BKz1.out 1).trans rfl, ((HB.out.cell (World.block_lt_of_cell? w _ hwz3_0)).trans hwz3_0), ((HB.out.cell (World.block_lt_of_cell? w _ hwz3_1)).trans hwz3_1), ((HB.out.cell (World.block_lt_of_cell? w _ hwz3_2)).trans hwz3_2), ((HB.out.cell (World.block_lt_of_cell? w _ hwz4_0)).trans hwz4_0), ((HB.out.cell (World.block_lt_of_cell? w _ hwz4_1)).trans hwz4_1), ((HB.out.cell (World.block_lt_of_cell? w _ hwz4_2)).trans hwz4_2)⟩ (fun hHeld => ?_); refine with_tabW columbariumref14_Right.tab11 columbariumref14_Right.bits11 (fun HT_ HW_ => ?_)
  generalize wr.drew = w28 at BKz1 HB hxz3_0 hxz3_1 hxz3_2 hxz4_0 hxz4_1 hxz4_2 hHeld ⊢
  refine pu_ 0 (some 42) HT_ rfl rfl (.inl ⟨by rfl, by intro w'; go_simp; with_reducible rfl⟩) (by simp only [Act.put, sa_, s0_, s1_, i64_w, i32_w]; rfl) ?_
  refine pu_ 2 (some 44) HT_ rfl rfl (.inl ⟨by rfl, by intro w'; go_simp; with_reducible rfl⟩) (by simp only [Act.put, sa_, s0_, s1_, i64_w, i32_w]; rfl) ?_
  refine tk_ 1 (some 43) HT_ HW_ rfl rfl (.inl ⟨by rfl, by rintro w' ⟨s0, s1, s2, s3, s4, s5, s6, s7⟩; go_simp; with_reducible rfl⟩) hHeld (by simp only [Act.put, sa_, s0_, s1_, i64_w, i32_w]; rfl) ?_
  refine pu_ 3 (some 45) HT_ rfl rfl (.inl ⟨by rfl, by intro w'; go_simp; with_reducible rfl⟩) (by simp only [Act.put, sa_, s0_, s1_, i64_w, i32_w]; rfl) ?_
  refine pu_ 4 (some 46) HT_ rfl rfl (.inl ⟨by rfl, by intro w'; go_simp; with_reducible rfl⟩) (by simp only [Act.put, sa_, s0_, s1_, i64_w, i32_w]; rfl) ?_
  refine tk_ 5 (some 47) HT_ HW_ rfl rfl (.inl ⟨by rfl, by rintro w' ⟨s0, s1, s2, s3, s4, s5, s6, s7⟩; go_simp; with_reducible rfl⟩) hHeld (by simp only [Act.put, sa_, s0_, s1_, i64_w, i32_w]; rfl) ?_
  refine pu_ 6 (some 48) HT_ rfl rfl (.inl ⟨by rfl, by intro w'; go_simp; with_reducible rfl⟩) (by simp only [Act.put, sa_, s0_, s1_, i64_w, i32_w]; rfl) ?_
  refine pu_ 7 (some 49) HT_ rfl rfl (.inl ⟨by rfl, by intro w'; go_simp; with_reducible rfl⟩) (by simp only [Act.put, sa_, s0_, s1_, i64_w, i32_w]; rfl) ?_
  refine pu_ 9 (some 51) HT_ rfl rfl (.inl ⟨by rfl, by intro w'; go_simp; with_reducible rfl⟩) (by simp only [Act.put, sa_, s0_, s1_, i64_w, i32_w]; rfl) ?_
  refine pu_ 12 (some 54) HT_ rfl rfl (.inl ⟨by rfl, by intro w'; go_simp; with_reducible rfl⟩) (by simp only [Act.put, sa_, s0_, s1_, i64_w, i32_w]; rfl) ?_
  refine tk_ 8 (some 50) HT_ HW_ rfl rfl (.inl ⟨by rfl, by rintro w' ⟨s0, s1, s2, s3, s4, s5, s6, s7⟩; go_simp; with_reducible rfl⟩) hHeld (by simp only [Act.put, sa_, s0_, s1_, i64_w, i32_w]; rfl) ?_
  refine pu_ 10 (some 52) HT_ rfl rfl (.inl ⟨by rfl, by intro w'; go_simp; with_reducible rfl⟩) (by simp only [Act.put, sa_, s0_, s1_, i64_w, i32_w]; rfl) ?_
  refine tk_ 11 (some 53) HT_ HW_ rfl rfl (.inl ⟨by rfl, by rintro w' ⟨s0, s1, s2, s3, s4, s5, s6, s7⟩; go_simp; with_reducible rfl⟩) hHeld (by simp only [Act.put, sa_, s0_, s1_, i64_w, i32_w]; rfl) ?_
  refine tk_ 13 (some 55) HT_ HW_ rfl rfl (.inl ⟨by rfl, by rintro w' ⟨s0, s1, s2, s3, s4, s5, s6, s7⟩; go_simp; with_reducible rfl⟩) hHeld (by simp only [Act.put, sa_, s0_, s1_, i64_w, i32_w]; rfl) ?_
  refine pu_ 14 (some 56) HT_ rfl rfl (.inl ⟨by rfl, by intro w'; go_simp; with_reducible rfl⟩) (by simp only [Act.put, sa_, s0_, s1_, i64_w, i32_w]; rfl) ?_
  refine on_ 15 (some 57) HT_ rfl rfl (fun K hK => ?_)
  refine goes_ Try.func41 (by kernel_rfl) rfl #[.agg #[.bool false, .int .i64 ((rd_T24 l0_1 x4_3).f1), .string ((rd_T24 l0_1 x4_3).f2)], .int .i64 (l0_0.length : Int)] (by rfl) rfl rfl (by (try simp only [List.map_toArray, List.map_cons, List.map_nil]) <;> rfl) ?_
  with_reducible refine (columbariumref14_may.calls false ((rd_T24 l0_1 x4_3).f1) ((rd_T24 l0_1 x4_3).f2) (l0_0.length : Int) false _ A22.out).mono ?_
  rintro e w29 ⟨rfl, hb⟩
  refine ⟨_, rfl, ?_⟩
  have n0_ := am (bkB (pk BKz1) hb)
  have n1_ := am (below_step (by repeat first | (with_reducible first | exact HB.out | apply ba | apply bn | apply bd | refine bs (by assumption) ?_) | exact HB.out) hb)
  clear BKz1 HB; have BKz1 := n0_; have HB := n1_; clear n0_ n1_; refine hK.out _ _ ⟨(blk_cell BKz1.out 0).trans rfl, (blk_cell BKz1.out 1).trans rfl, ((HB.out.cell (World.block_lt_of_cell? w _ hwz3_0)).trans hwz3_0), ((HB.out.cell (World.block_lt_of_cell? w _ hwz3_1)).trans hwz3_1), ((HB.out.cell (World.block_lt_of_cell? w _ hwz3_2)).trans hwz3_2), ((HB.out.cell (World.block_lt_of_cell? w _ hwz4_0)).trans hwz4_0), ((HB.out.cell (World.block_lt_of_cell? w _ hwz4_1)).trans hwz4_1), ((HB.out.cell (World.block_lt_of_cell? w _ hwz4_2)).trans hwz4_2)⟩ (fun hHeld => ?_)
  clear hK K
  refine norm_ (by show Act.put _ (some 57) _ = _; simp only [Act.put, sa_, s0_, s1_, i64_w, i32_w]; rfl) ?_
  refine pu_ 16 (some 58) HT_ rfl rfl (.inl ⟨by rfl, by intro w'; go_simp; with_reducible rfl⟩) (by simp only [Act.put, sa_, s0_, s1_, i64_w, i32_w]; rfl) ?_
  refine pu_ 17 (some 59) HT_ rfl rfl (.inl ⟨by rfl, by intro w'; go_simp; with_reducible rfl⟩) (by simp only [Act.put, sa_, s0_, s1_, i64_w, i32_w]; rfl) ?_
  refine done_ (done_of HT_.out (by kernel_rfl)) ?_
  try go_wp2
  go_ret
  exact ⟨by first | rfl | (simp <;> rfl) | (simp [*] <;> rfl), by repeat first | (with_reducible first | exact HB.out | apply ba | apply bn | apply bd | refine bs (by assumption) ?_) | exact HB.out⟩
 subst c23
 have H1 : (columbariumref14_Right.l1 k3 (wrap64 (x4_3 + 1)) l0_0 l0_1) = some r := by rw [if_pos rfl] at H; exact H
 clear H
 have H := H1
 clear H1
 have H' := am H
 clear H
 obtain ⟨hcz24_0, hcz24_1⟩ := bc2 BKz1
 obtain ⟨hfz24_0, hfz24_1⟩ := bf2 BKz1
 try go_wp2
 have n0_ := am (bkD BKz1.out)
 have n1_ := am (below_drew1 HB.out)
 clear BKz1 HB; have BKz1 := n0_; have HB := n1_; clear n0_ n1_
 have pz3 : 0 ≤ (x4_3 : Int) := of_decide_eq_true (by first | (with_reducible assumption) | assumption)
 have qz3 : x4_3 < (l0_1.length : Int) := of_decide_eq_true (by first | (with_reducible assumption) | assumption)
 obtain ⟨adz3, ez3, hxz3_0, hxz3_1, hxz3_2⟩ := at_T24 HR0_1.out x4_3 pz3 qz3
 have hwz3_2 := hxz3_2
 have hwz3_1 := hxz3_1
 have hwz3_0 := hxz3_0
 (try rw [← Nbq18.out] at hxz3_0); (try rw [← Nbq18.out] at hwz3_0)
 cases ez3
 replace hxz3_0 := (HB.out.cell (World.block_lt_of_cell? w _ hxz3_0)).trans hxz3_0
 replace hxz3_1 := (HB.out.cell (World.block_lt_of_cell? w _ hxz3_1)).trans hxz3_1
 replace hxz3_2 := (HB.out.cell (World.block_lt_of_cell? w _ hxz3_2)).trans hxz3_2
 replace pz3 := eq_true pz3
 replace qz3 := eq_true qz3
 have pz4 : 0 ≤ (x4_3 : Int) := of_decide_eq_true (by first | (with_reducible assumption) | assumption)
 have qz4 : x4_3 < (l0_1.length : Int) := of_decide_eq_true (by first | (with_reducible assumption) | assumption)
 obtain ⟨adz4, ez4, hxz4_0, hxz4_1, hxz4_2⟩ := at_T24 HR0_1.out x4_3 pz4 qz4
 have hwz4_2 := hxz4_2
 have hwz4_1 := hxz4_1
 have hwz4_0 := hxz4_0
 (try rw [← Nbq18.out] at hxz4_0); (try rw [← Nbq18.out] at hwz4_0)
 obtain rfl : adz3 = adz4 := (by injection ez4)
 replace hxz4_0 := (HB.out.cell (World.block_lt_of_cell? w _ hxz4_0)).trans hxz4_0
 replace hxz4_1 := (HB.out.cell (World.block_lt_of_cell? w _ hxz4_1)).trans hxz4_1
 replace hxz4_2 := (HB.out.cell (World.block_lt_of_cell? w _ hxz4_2)).trans hxz4_2
 replace pz4 := eq_true pz4
 replace qz4 := eq_true qz4
 refine start_ (n := 18) (S := fun w' => w'.cell? ⟨gbz1, 0, none⟩ = some (.slice A0_0 l0_0.length c0_0) ∧ w'.cell? ⟨gbz1, 1, none⟩ = some (.slice (some adz3) l0_1.length c0_1) ∧ w'.cell? (adz3.add ((x4_3).toNat * 3)) = some (.bool false) ∧ w'.cell? ⟨(adz3.add ((x4_3).toNat * 3)).block, (adz3.add ((x4_3).toNat * 3)).off + 1, none⟩ = some (.int .i64 ((rd_T24 l0_1 x4_3).f1)) ∧ w'.cell? ⟨(adz3.add ((x4_3).toNat * 3)).block, (adz3.add ((x4_3).toNat * 3)).off + 2, none⟩ = some (.string ((rd_T24 l0_1 x4_3).f2)) ∧ w'.cell? (adz3.add ((x4_3).toNat * 3)) = some (.bool (false)) ∧ w'.cell? ⟨(adz3.add ((x4_3).toNat * 3)).block, (adz3.add ((x4_3).toNat * 3)).off + 1, none⟩ = some (.int .i64 ((rd_T24 l0_1 x4_3).f1)) ∧ w'.cell? ⟨(adz3.add ((x4_3).toNat * 3)).block, (adz3.add ((x4_3).toNat * 3)).off + 2, none⟩ = some (.string ((rd_T24 l0_1 x4_3).f2))) (ds := []) #[false, false, false, false, false, false, false, false, false, false, false, false, false, false, false, false, false, false] (by kernel_rfl) rfl rfl ⟨(blk_cell BKz1.out 0).trans rfl, (blk_cell BKz1.out 1).trans rfl, ((HB.out.cell (World.block_lt_of_cell? w _ hwz3_0)).trans hwz3_0), ((HB.out.cell (World.block_lt_of_cell? w _ hwz3_1)).trans hwz3_1), ((HB.out.cell (World.block_lt_of_cell? w _ hwz3_2)).trans hwz3_2), ((HB.out.cell (World.block_lt_of_cell? w _ hwz4_0)).trans hwz4_0), ((HB.out.cell (World.block_lt_of_cell? w _ hwz4_1)).trans hwz4_1), ((HB.out.cell (World.block_lt_of_cell? w _ hwz4_2)).trans hwz4_2)⟩ (fun hHeld => ?_); refine with_tabW columbariumref14_Right.tab11 columbariumref14_Right.bits11 (fun HT_ HW_ => ?_)
 generalize wr.drew = w25 at BKz1 HB hxz3_0 hxz3_1 hxz3_2 hxz4_0 hxz4_1 hxz4_2 hHeld ⊢
 refine pu_ 0 (some 42) HT_ rfl rfl (.inl ⟨by rfl, by intro w'; go_simp; with_reducible rfl⟩) (by simp only [Act.put, sa_, s0_, s1_, i64_w, i32_w]; rfl) ?_
 refine pu_ 2 (some 44) HT_ rfl rfl (.inl ⟨by rfl, by intro w'; go_simp; with_reducible rfl⟩) (by simp only [Act.put, sa_, s0_, s1_, i64_w, i32_w]; rfl) ?_
 refine tk_ 1 (some 43) HT_ HW_ rfl rfl (.inl ⟨by rfl, by rintro w' ⟨s0, s1, s2, s3, s4, s5, s6, s7⟩; go_simp; with_reducible rfl⟩) hHeld (by simp only [Act.put, sa_, s0_, s1_, i64_w, i32_w]; rfl) ?_
 refine pu_ 3 (some 45) HT_ rfl rfl (.inl ⟨by rfl, by intro w'; go_simp; with_reducible rfl⟩) (by simp only [Act.put, sa_, s0_, s1_, i64_w, i32_w]; rfl) ?_
 refine pu_ 4 (some 46) HT_ rfl rfl (.inl ⟨by rfl, by intro w'; go_simp; with_reducible rfl⟩) (by simp only [Act.put, sa_, s0_, s1_, i64_w, i32_w]; rfl) ?_
 refine tk_ 5 (some 47) HT_ HW_ rfl rfl (.inl ⟨by rfl, by rintro w' ⟨s0, s1, s2, s3, s4, s5, s6, s7⟩; go_simp; with_reducible rfl⟩) hHeld (by simp only [Act.put, sa_, s0_, s1_, i64_w, i32_w]; rfl) ?_
 refine pu_ 6 (some 48) HT_ rfl rfl (.inl ⟨by rfl, by intro w'; go_simp; with_reducible rfl⟩) (by simp only [Act.put, sa_, s0_, s1_, i64_w, i32_w]; rfl) ?_
 refine pu_ 7 (some 49) HT_ rfl rfl (.inl ⟨by rfl, by intro w'; go_simp; with_reducible rfl⟩) (by simp only [Act.put, sa_, s0_, s1_, i64_w, i32_w]; rfl) ?_
 refine pu_ 9 (some 51) HT_ rfl rfl (.inl ⟨by rfl, by intro w'; go_simp; with_reducible rfl⟩) (by simp only [Act.put, sa_, s0_, s1_, i64_w, i32_w]; rfl) ?_
 refine pu_ 12 (some 54) HT_ rfl rfl (.inl ⟨by rfl, by intro w'; go_simp; with_reducible rfl⟩) (by simp only [Act.put, sa_, s0_, s1_, i64_w, i32_w]; rfl) ?_
 refine tk_ 8 (some 50) HT_ HW_ rfl rfl (.inl ⟨by rfl, by rintro w' ⟨s0, s1, s2, s3, s4, s5, s6, s7⟩; go_simp; with_reducible rfl⟩) hHeld (by simp only [Act.put, sa_, s0_, s1_, i64_w, i32_w]; rfl) ?_
 refine pu_ 10 (some 52) HT_ rfl rfl (.inl ⟨by rfl, by intro w'; go_simp; with_reducible rfl⟩) (by simp only [Act.put, sa_, s0_, s1_, i64_w, i32_w]; rfl) ?_
 refine tk_ 11 (some 53) HT_ HW_ rfl rfl (.inl ⟨by rfl, by rintro w' ⟨s0, s1, s2, s3, s4, s5, s6, s7⟩; go_simp; with_reducible rfl⟩) hHeld (by simp only [Act.put, sa_, s0_, s1_, i64_w, i32_w]; rfl) ?_
 refine tk_ 13 (some 55) HT_ HW_ rfl rfl (.inl ⟨by rfl, by rintro w' ⟨s0, s1, s2, s3, s4, s5, s6, s7⟩; go_simp; with_reducible rfl⟩) hHeld (by simp only [Act.put, sa_, s0_, s1_, i64_w, i32_w]; rfl) ?_
 refine pu_ 14 (some 56) HT_ rfl rfl (.inl ⟨by rfl, by intro w'; go_simp; with_reducible rfl⟩) (by simp only [Act.put, sa_, s0_, s1_, i64_w, i32_w]; rfl) ?_
 refine on_ 15 (some 57) HT_ rfl rfl (fun K hK => ?_)
 refine goes_ Try.func41 (by kernel_rfl) rfl #[.agg #[.bool false, .int .i64 ((rd_T24 l0_1 x4_3).f1), .string ((rd_T24 l0_1 x4_3).f2)], .int .i64 (l0_0.length : Int)] (by rfl) rfl rfl (by (try simp only [List.map_toArray, List.map_cons, List.map_nil]) <;> rfl) ?_
 with_reducible refine (columbariumref14_may.calls false ((rd_T24 l0_1 x4_3).f1) ((rd_T24 l0_1 x4_3).f2) (l0_0.length : Int) true _ A22.out).mono ?_
 rintro e w26 ⟨rfl, hb⟩
 refine ⟨_, rfl, ?_⟩
 have n0_ := am (bkB (pk BKz1) hb)
 have n1_ := am (below_step (by repeat first | (with_reducible first | exact HB.out | apply ba | apply bn | apply bd | refine bs (by assumption) ?_) | exact HB.out) hb)
 clear BKz1 HB; have BKz1 := n0_; have HB := n1_; clear n0_ n1_; refine hK.out _ _ ⟨(blk_cell BKz1.out 0).trans rfl, (blk_cell BKz1.out 1).trans rfl, ((HB.out.cell (World.block_lt_of_cell? w _ hwz3_0)).trans hwz3_0), ((HB.out.cell (World.block_lt_of_cell? w _ hwz3_1)).trans hwz3_1), ((HB.out.cell (World.block_lt_of_cell? w _ hwz3_2)).trans hwz3_2), ((HB.out.cell (World.block_lt_of_cell? w _ hwz4_0)).trans hwz4_0), ((HB.out.cell (World.block_lt_of_cell? w _ hwz4_1)).trans hwz4_1), ((HB.out.cell (World.block_lt_of_cell? w _ hwz4_2)).trans hwz4_2)⟩ (fun hHeld => ?_)
 clear hK K
 refine norm_ (by show Act.put _ (some 57) _ = _; simp only [Act.put, sa_, s0_, s1_, i64_w, i32_w]; rfl) ?_
 refine pu_ 16 (some 58) HT_ rfl rfl (.inl ⟨by rfl, by intro w'; go_simp; with_reducible rfl⟩) (by simp only [Act.put, sa_, s0_, s1_, i64_w, i32_w]; rfl) ?_
 refine pu_ 17 (some 59) HT_ rfl rfl (.inl ⟨by rfl, by intro w'; go_simp; with_reducible rfl⟩) (by simp only [Act.put, sa_, s0_, s1_, i64_w, i32_w]; rfl) ?_
 refine done_ (done_of HT_.out (by kernel_rfl)) ?_
 try go_wp2
 go_roundg k3
 case measure => have := HJ1.out; have := HK2.out; have := HK3.out; omega
 case rel => exact ⟨(wrap64 (x4_3 + 1)), (by first | rfl | (simp; done) | (simp [*]; done)), H', ⟨by have := HJ1.out; have := HK2.out; have := HK3.out; omega⟩, ⟨by (with_reducible repeat (first | refine blk_drewN ?_ _ | refine bkD ?_ | refine bkA ?_ _)); exact BKz1.out⟩, ⟨by repeat first | (with_reducible first | exact HB.out | apply ba | apply bn | apply bd | refine bs (by assumption) ?_) | exact HB.out⟩⟩
end Go.Proofs.Ytcfinlmocgbnbaa.Pr
end
section
namespace Go.Proofs.Ytcfinlmocgbnbaa.Pr
open Go.Proofs.Ytcfinlmocgbnbaa.Sq Go.RowKit Go.Proofs.YtcfinlmocgbnbaaW.PrintWords Go.Proofs.YtcfinlmocgbnbaaW.PrintLast Go.Proofs.YtcfinlmocgbnbaaW.PrintMore
attribute [local go_sem] max2_int min2_int max_two min_two max_three min_three max_four min_four
set_option linter.unusedVariables false
set_option linter.unusedSimpArgs false
def columbariumref14_fallen.l0 : Nat → List Int → Int → List ByteArray → List (S24) → List ByteArray → Option (List ByteArray × (List (S24)))
 | 0, _, _, _, _, _ => none
 | k + 1, x1, x6, xz2000, xz2001, xz7000 => if x6 < (xz2001.length : Int) then (if 0 ≤ x6 then (if x6 < (x1.length : Int) then (if 0 ≤ (mx 0 (mn (rd x1 x6) 64)) then (if (mx 0 (mn (rd x1 x6) 64)) ≤ (((rd_T24 xz2001 x6).f2).size : Int) then (if 0 ≤ ((rd_T24 xz2001 x6).f1) then (if ((rd_T24 xz2001 x6).f1) < (xz7000.length : Int) then (if (mx 0 (mn (rd x1 x6) 64)) ≤ ((rdOf ByteArray.empty xz7000 ((rd_T24 xz2001 x6).f1)).size : Int) then (if (((rd_T24 xz2001 x6).f2).extract 0 ((mx 0 (mn (rd x1 x6) 64)) : Int).toNat).size + ((rdOf ByteArray.empty xz7000 ((rd_T24 xz2001 x6).f1)).extract ((mx 0 (mn (rd x1 x6) 64)) : Int).toNat (rdOf ByteArray.empty xz7000 ((rd_T24 xz2001 x6).f1)).size).size ≤ 9223372036854775807 then (columbariumref14_fallen.l0 k x1 (wrap64 (x6 + 1)) xz2000 xz2001 (xz7000.set (((rd_T24 xz2001 x6).f1) : Int).toNat ((((rd_T24 xz2001 x6).f2).extract 0 ((mx 0 (mn (rd x1 x6) 64)) : Int).toNat) ++ ((rdOf ByteArray.empty xz7000 ((rd_T24 xz2001 x6).f1)).extract ((mx 0 (mn (rd x1 x6) 64)) : Int).toNat (rdOf ByteArray.empty xz7000 ((rd_T24 xz2001 x6).f1)).size)))) else (none)) else (none)) else (none)) else (none)) else (none)) else (none)) else (if 0 ≤ 0 then (if 0 ≤ (((rd_T24 xz2001 x6).f2).size : Int) then (if 0 ≤ ((rd_T24 xz2001 x6).f1) then (if ((rd_T24 xz2001 x6).f1) < (xz7000.length : Int) then (if 0 ≤ ((rdOf ByteArray.empty xz7000 ((rd_T24 xz2001 x6).f1)).size : Int) then (if (((rd_T24 xz2001 x6).f2).extract 0 0).size + ((rdOf ByteArray.empty xz7000 ((rd_T24 xz2001 x6).f1)).extract 0 (rdOf ByteArray.empty xz7000 ((rd_T24 xz2001 x6).f1)).size).size ≤ 9223372036854775807 then (columbariumref14_fallen.l0 k x1 (wrap64 (x6 + 1)) xz2000 xz2001 (xz7000.set (((rd_T24 xz2001 x6).f1) : Int).toNat ((((rd_T24 xz2001 x6).f2).extract 0 0) ++ ((rdOf ByteArray.empty xz7000 ((rd_T24 xz2001 x6).f1)).extract 0 (rdOf ByteArray.empty xz7000 ((rd_T24 xz2001 x6).f1)).size)))) else (none)) else (none)) else (none)) else (none)) else (none)) else (none))) else (none)) else (some (xz7000, ([] : List (S24))))
def columbariumref14_fallen.f (k : Nat) (l0_0 : List ByteArray) (l0_1 : List (S24)) (l1 : List Int) : Option (List ByteArray × (List (S24))) := if ([] : List ByteArray).length + l0_0.length < 8796093022208 then (columbariumref14_fallen.l0 k l1 0 l0_0 l0_1 (([] : List ByteArray) ++ l0_0)) else (none)
def columbariumref14_fallen.T9 : Bool × List (List Nat × List Nat) := (true, [([], []), ([0], [0]), ([], []), ([2], [2]), ([], []), ([4], [4]), ([], []), ([5, 6], [5, 6]), ([], []), ([8], [8]), ([], []), ([10], [10]), ([9, 11], [9, 11]), ([12], [12]), ([], []), ([13, 14], [13, 14]), ([7, 15], [7, 15]), ([1, 3, 0, 1, 2, 3, 4, 5, 6, 7, 8, 9, 10, 11, 12, 13, 14, 15, 16], [1, 3]), ([17, 16, 0, 1, 2, 3, 4, 5, 6, 7, 8, 9, 10, 11, 12, 13, 14, 15, 16], [16, 17])])
def columbariumref14_fallen.B9 : List Nat := [0, 1, 0, 4, 0, 16, 0, 112, 0, 256, 0, 1024, 3840, 7936, 0, 32512, 65520, 131071, 262143]
theorem columbariumref14_fallen.tab9 : rtab .any (opsOf Try.f42 9) = columbariumref14_fallen.T9 := by kernel_rfl
theorem columbariumref14_fallen.bits9 : waitsOk columbariumref14_fallen.T9.2 columbariumref14_fallen.B9 = true := by kernel_rfl
set_option maxHeartbeats 8000000 in
set_option maxRecDepth 100000 in
theorem columbariumref14_fallen.calls (k : Nat) (A0_0 : Option Addr) (c0_0 : Nat) (l0_0 : List ByteArray) (A0_1 : Option Addr) (c0_1 : Nat) (l0_1 : List (S24)) (A1 : Option Addr) (c1 : Nat) (l1 : List Int) (r1 : List ByteArray) (r2 : List (S24)) (w : World) (hr0_0 : Kd.C Kd.string w A0_0 l0_0.length l0_0) (hc0_0 : l0_0.length ≤ c0_0) (hr0_1 : Kd.C k24 w A0_1 l0_1.length l0_1) (hc0_1 : l0_1.length ≤ c0_1) (hr1 : Kd.C (Kd.int .i64) w A1 l1.length l1) (hc1 : l1.length ≤ c1) (h : columbariumref14_fallen.f k l0_0 l0_1 l1 = some (r1, r2)) :
  Calls Try.prog 42 #[.agg #[.slice A0_0 l0_0.length c0_0, .slice A0_1 l0_1.length c0_1], .slice A1 l1.length c1] w fun e w' => ∃ v0_ v1_ : Value, e = .returned (.agg #[v0_, v1_]) ∧ Kd.R Kd.string 9 w' w.heap.size (fun _ => True) v0_ r1 ∧ Kd.R k24 24 w' w.heap.size (fun _ => True) v1_ r2 ∧ Below w.heap.size w w' := by
 have hu30 := Try.underlying30
 have hu24 := Try.underlying24
 have HR0_0 := am hr0_0
 have HC0_0 := am hc0_0
 clear hr0_0 hc0_0
 have HR0_1 := am hr0_1
 have HC0_1 := am hc0_1
 clear hr0_1 hc0_1
 have HR1 := am hr1
 have HC1 := am hc1
 clear hr1 hc1
 have HB := am (Below.refl w.heap.size w)
 have H : (if ([] : List ByteArray).length + l0_0.length < 8796093022208 then (columbariumref14_fallen.l0 k l1 0 l0_0 l0_1 (([] : List ByteArray) ++ l0_0)) else (none)) = some (r1, r2) := h
 clear h
 by_cases c3 : ([] : List ByteArray).length + l0_0.length < 8796093022208
 rotate_left
 ·rw [if_neg c3] at H
  exact absurd H (by simp)
 rw [if_pos c3] at H
 have LMc3 := Aside0.mk c3
 clear c3
 obtain ⟨yz3, hyz3⟩ : ∃ y_ : List ByteArray, y_ = (([] : List ByteArray) ++ l0_0) := ⟨_, rfl⟩
 replace H : (columbariumref14_fallen.l0 k l1 0 l0_0 l0_1 yz3) = some (r1, r2) := by first | (rw [hyz3]; with_reducible exact H) | (have H2_ := (Option.bind_some _ _).symm.trans H; rw [hyz3]; with_reducible exact H2_) | (have H2_ := (Option.bind_some _ _).symm.trans H; with_reducible exact H2_) | with_reducible exact H | (rw [hyz3]; exact H) | exact H
 have Nyz3 := am hyz3
 clear hyz3
 have H' := am H
 clear H
 go_enter Try.func42, Try.ntmps42
 go_wp2_with (first | ((with_reducible refine gate_dst (N := 2) rfl ?_); refine box_event ?hg (N := 2) ?hd (cs := #[.slice A0_0 l0_0.length c0_0, .slice A0_1 l0_1.length c0_1]) (t := 30) ?hr ?_; (case hd => rfl); (case hg => rfl); (case hr => first | (go_simp; done) | (go_simp; rfl)); intro gbz1 hg w4 hbox hb; have n0_ := am (below_step (pb HB) hb); have n1_ := am (hbox); have n2_ := ge_ hg (pb HB); have n3_ := ge_ hg (pb HB); clear HB; have HB := n0_; have BKz1 := n1_; have GWz1 := n2_; have GEz1 := n3_; clear n0_ n1_ n2_ n3_; clear hb hbox hg) | ((with_reducible refine gate_dst (N := 4) rfl ?_); refine box_event ?hg (N := 4) ?hd (cs := #[.slice none 0 0, .slice none 0 0]) (t := 30) ?hr ?_; (case hd => rfl); (case hg => rfl); (case hr => first | (go_simp; done) | (go_simp; rfl)); intro gbz2 hg w5 hbox hb; have n0_ := am (bkB (pk BKz1) hb); have n1_ := am (below_step (by repeat first | (with_reducible first | exact HB.out | apply ba | apply bn | apply bd | refine bs (by assumption) ?_) | exact HB.out) hb); have n2_ := am (hbox); have n3_ := ge_ hg (by repeat first | (with_reducible first | exact HB.out | apply ba | apply bn | apply bd | refine bs (by assumption) ?_) | exact HB.out); have n4_ := ge_ hg (by repeat first | (with_reducible first | exact HB.out | apply ba | apply bn | apply bd | refine bs (by assumption) ?_) | exact HB.out); have n5_ := nl_ hg BKz1; have n6_ := ng_ hg BKz1; clear BKz1; clear HB; have BKz1 := n0_; have HB := n1_; have BKz2 := n2_; have GWz2 := n3_; have GEz2 := n4_; have NBz1_z2 := n5_; have NBz2_z1 := n6_; clear n0_ n1_ n2_ n3_ n4_ n5_ n6_; clear hb hbox hg; have hnb6 := NBz1_z2.out; have hnc6 := NBz2_z1.out; obtain ⟨hcz7_0, hcz7_1⟩ := bc2 BKz1; obtain ⟨hfz7_0, hfz7_1⟩ := bf2 BKz1) | ((with_reducible refine gate_builtin (b := .append) (xs := #[.const (.slice none 0 0), .tmp 10]) rfl ?_); at_builtin; refine Kd.R_append_rows Kd.string (w0 := w) w.heap.size rfl (.const (.slice none 0 0)) (.tmp 10) 27 9 (.string ⟨#[]⟩) 16 rfl Try.underlying27 info9 rfl (by decide) (by omega) (.slice none 0 0) ([] : List ByteArray) l0_0 _ _ _ (fun _ => True) (fun _ => False) rfl rfl ?aO ?aR (fun _ _ h => h) (fun _ h => h.elim) ?aF ?aB ?aS ?aL ?_; (case aR => repeat (first | exact (Kd.C_below HR0_0.out HB.out) | (with_reducible refine Kd.C_alloc ?_ _) | (with_reducible refine Kd.C_drewN ?_ _) | (with_reducible refine Kd.C_drew ?_))); (case aB => exact (by repeat first | (with_reducible first | exact HB.out | apply ba | apply bn | apply bd | refine bs (by assumption) ?_) | exact HB.out)); (case aF => exact (fun _ _ => trivial)); (case aO => exact ((Kd.R_nil _ _ _ _ (fun _ => True)))); (case aS => exact (below_size (by repeat first | (with_reducible first | exact HB.out | apply ba | apply bn | apply bd | refine bs (by assumption) ?_) | exact HB.out))); (case aL => have := LMc3.out; omega); intro vz4 w8 ho hb hg hat; rw [← Nyz3.out] at ho; have n0_ := am (blk_grown (pk BKz1) hg (by simp [Value.ownBlock])); have n1_ := am (blk_grown (pk BKz2) hg (by simp [Value.ownBlock])); have n2_ := am (hb); have n3_ := am (ho); clear BKz1; clear BKz2; clear HB; have BKz1 := n0_; have BKz2 := n1_; have HB := n2_; have HOz5 := n3_; clear n0_ n1_ n2_ n3_; clear ho hb hg hat; obtain ⟨Ao9, co9, eo9⟩ := Kd.R_slice HOz5.out; subst eo9) | ((with_reducible refine gate_dst (N := 5) rfl ?_); refine box_event ?hg (N := 5) ?hd (cs := #[.slice none 0 0, .slice none 0 0]) (t := 30) ?hr ?_; (case hd => rfl); (case hg => rfl); (case hr => first | (go_simp; done) | (go_simp; rfl)); intro gbz6 hg w10 hbox hb; have n0_ := am (Kd.R_below (pr HOz5) hb); have n1_ := am (bkB (pk BKz1) hb); have n2_ := am (bkB (pk BKz2) hb); have n3_ := am (below_step (by repeat first | (with_reducible first | exact HB.out | apply ba | apply bn | apply bd | refine bs (by assumption) ?_) | exact HB.out) hb); have n4_ := am (hbox); have n5_ := ge_ hg (by repeat first | (with_reducible first | exact HB.out | apply ba | apply bn | apply bd | refine bs (by assumption) ?_) | exact HB.out); have n6_ := ge_ hg (by repeat first | (with_reducible first | exact HB.out | apply ba | apply bn | apply bd | refine bs (by assumption) ?_) | exact HB.out); have n7_ := nl_ hg BKz1; have n8_ := ng_ hg BKz1; have n9_ := nl_ hg BKz2; have n10_ := ng_ hg BKz2; clear HOz5; clear BKz1; clear BKz2; clear HB; have HOz5 := n0_; have BKz1 := n1_; have BKz2 := n2_; have HB := n3_; have BKz6 := n4_; have GWz6 := n5_; have GEz6 := n6_; have NBz1_z6 := n7_; have NBz6_z1 := n8_; have NBz2_z6 := n9_; have NBz6_z2 := n10_; clear n0_ n1_ n2_ n3_ n4_ n5_ n6_ n7_ n8_ n9_ n10_; clear hb hbox hg; have hnb11 := NBz6_z1.out; have hnc11 := NBz1_z6.out; have hnb12 := NBz6_z2.out; have hnc12 := NBz2_z6.out; obtain ⟨hcz13_0, hcz13_1⟩ := bc2 BKz6; obtain ⟨hfz13_0, hfz13_1⟩ := bf2 BKz6))
 go_loopg [6] k (fun kq v6 w' => ∃ (x6_1 : Int) (xz7000_1 : List ByteArray) (uz7000 : Value), v6 = .int .i64 x6_1 ∧ Aside0 (columbariumref14_fallen.l0 kq l1 x6_1 l0_0 l0_1 xz7000_1 = some (r1, r2)) ∧ Aside0 (kq ≤ k) ∧ Aside0 (Kd.R Kd.string 9 w' w.heap.size (fun _ => True) uz7000 xz7000_1) ∧ Aside0 (w'.heap[gbz1]? = some (.cells #[(.slice A0_0 l0_0.length c0_0), (.slice A0_1 l0_1.length c0_1)] 30 (0, 0))) ∧ Aside0 (w'.heap[gbz2]? = some (.cells #[(.slice none 0 0), (.slice none 0 0)] 30 (0, 0))) ∧ Aside0 (w'.heap[gbz6]? = some (.cells #[uz7000, (.slice none 0 0)] 30 (0, 0))) ∧ Aside0 (Below w.heap.size w w'))
 case atStart => exact ⟨(0), (yz3), (.slice Ao9 yz3.length co9), (by first | rfl | (simp; done) | (simp [*]; done)), H', ⟨Nat.le_refl _⟩, ⟨by (with_reducible repeat first | apply ra | apply rn | apply rd); exact Kd.R_mono (rf2 (Kd.R_types HOz5.out BKz6.out (by decide)) (fun _ hk => hk.2)) (fun _ hk => trivial)⟩, ⟨by (with_reducible repeat (first | refine blk_drewN ?_ _ | refine bkD ?_ | refine bkA ?_ _)); refine blk_far ?_ NBz1_z6.out _; refine blk_far ?_ NBz1_z6.out _; (with_reducible repeat (first | refine blk_drewN ?_ _ | refine bkD ?_ | refine bkA ?_ _)); exact BKz1.out⟩, ⟨by (with_reducible repeat (first | refine blk_drewN ?_ _ | refine bkD ?_ | refine bkA ?_ _)); refine blk_far ?_ NBz2_z6.out _; refine blk_far ?_ NBz2_z6.out _; (with_reducible repeat (first | refine blk_drewN ?_ _ | refine bkD ?_ | refine bkA ?_ _)); exact BKz2.out⟩, ⟨by (with_reducible repeat (first | refine blk_drewN ?_ _ | refine bkD ?_ | refine bkA ?_ _)); apply bp2; (with_reducible repeat (first | refine blk_drewN ?_ _ | refine bkD ?_ | refine bkA ?_ _)); exact BKz6.out⟩, ⟨by repeat first | (with_reducible first | exact HB.out | apply ba | apply bn | apply bd | refine bs (by assumption) ?_) | exact HB.out⟩⟩
 clear H'
 try clear c1
 try clear p2
 try clear c3
 try clear c4
 try clear c6
 try clear c11
 try clear c12
 try clear hcz13_0
 try clear hcz13_1
 try clear hcz7_0
 try clear hcz7_1
 try clear hfz13_0
 try clear hfz13_1
 try clear hfz7_0
 try clear hfz7_1
 obtain ⟨x6_1, xz7000_1, uz7000, rfl, HA, HK1, HO_z7000, BKz1, BKz2, BKz6, HB⟩ := hrel
 cases gk with
 | zero => exact absurd HA.out (by simp [columbariumref14_fallen.l0])
 | succ k1 => ?_
 have H := HA.out
 clear HA
 simp only [columbariumref14_fallen.l0] at H
 by_cases c14 : x6_1 < (l0_1.length : Int)
 rotate_left
 ·rw [if_neg c14] at H
  have c14b0 : decide (x6_1 < (l0_1.length : Int)) = false := decide_eq_false c14
  clear c14
  simp only [Option.some.injEq, Prod.mk.injEq] at H
  obtain ⟨rfl, rfl⟩ := H
  have hnb64 := NBz1_z2.out
  have hnc64 := NBz2_z1.out
  have hnb65 := NBz1_z6.out
  have hnc65 := NBz6_z1.out
  obtain ⟨hcz66_0, hcz66_1⟩ := bc2 BKz1
  obtain ⟨hfz66_0, hfz66_1⟩ := bf2 BKz1
  have hnb67 := NBz6_z2.out
  have hnc67 := NBz2_z6.out
  obtain ⟨hcz68_0, hcz68_1⟩ := bc2 BKz6
  obtain ⟨hfz68_0, hfz68_1⟩ := bf2 BKz6
  obtain ⟨Ao69, co69, eo69⟩ := Kd.R_slice HO_z7000.out
  subst eo69
  obtain ⟨hcz70_0, hcz70_1⟩ := bc2 BKz2
  obtain ⟨hfz70_0, hfz70_1⟩ := bf2 BKz2
  go_wp2
  refine bodyPost_ret (results_cell_row rfl _ _ gbz2 30 #[.slice Ao69 xz7000_1.length co69, .slice none 0 0] (0, 0) _ rfl (by (with_reducible repeat (first | refine blk_drewN ?_ _ | refine bkD ?_ | refine bkA ?_ _)); apply bp2; exact pk BKz2) Try.underlying30 rfl (by kernel_rfl)) rfl ?_
  exact ⟨_, _, by first | rfl | (simp <;> rfl) | (simp [*] <;> rfl), by (with_reducible repeat first | apply ra | apply rn | apply rd); exact Kd.R_mono (rf2 (Kd.R_types HO_z7000.out BKz2.out (by decide)) (fun _ hk => hk.2)) (fun _ hk => trivial), by exact Kd.R_nil _ _ _ _ _, by repeat first | (with_reducible first | exact HB.out | apply ba | apply bn | apply bd | refine bs (by assumption) ?_) | exact HB.out⟩
 rw [if_pos c14] at H
 have c14b0 : decide (x6_1 < (l0_1.length : Int)) = true := decide_eq_true c14
 clear c14
 by_cases c15 : 0 ≤ x6_1
 rotate_left
 ·rw [if_neg c15] at H
  exact absurd H (by simp)
 rw [if_pos c15] at H
 have c15b0 : decide (0 ≤ x6_1) = true := decide_eq_true c15
 clear c15
 by_cases c16 : x6_1 < (l1.length : Int)
 rotate_left
 ·rw [if_neg c16] at H
  have c16b0 : decide (x6_1 < (l1.length : Int)) = false := decide_eq_false c16
  clear c16
  by_cases c42 : 0 ≤ 0
  rotate_left
  ·rw [if_neg c42] at H
   exact absurd H (by simp)
  rw [if_pos c42] at H
  have c42b0 := eq_true c42
  have c42b1 : decide (0 ≤ 0) = true := decide_eq_true c42
  clear c42
  by_cases c43 : 0 ≤ (((rd_T24 l0_1 x6_1).f2).size : Int)
  rotate_left
  ·rw [if_neg c43] at H
   exact absurd H (by simp)
  rw [if_pos c43] at H
  have c43b0 := eq_true c43
  have c43b1 : decide (0 ≤ (((rd_T24 l0_1 x6_1).f2).size : Int)) = true := decide_eq_true c43
  clear c43
  obtain ⟨sx44, hsx44⟩ : ∃ s_ : ByteArray, (((rd_T24 l0_1 x6_1).f2).extract 0 0) = s_ := ⟨_, rfl⟩
  replace H : (if 0 ≤ ((rd_T24 l0_1 x6_1).f1) then (if ((rd_T24 l0_1 x6_1).f1) < (xz7000_1.length : Int) then (if 0 ≤ ((rdOf ByteArray.empty xz7000_1 ((rd_T24 l0_1 x6_1).f1)).size : Int) then (if (sx44).size + ((rdOf ByteArray.empty xz7000_1 ((rd_T24 l0_1 x6_1).f1)).extract 0 (rdOf ByteArray.empty xz7000_1 ((rd_T24 l0_1 x6_1).f1)).size).size ≤ 9223372036854775807 then (columbariumref14_fallen.l0 k1 l1 (wrap64 (x6_1 + 1)) l0_0 l0_1 (xz7000_1.set (((rd_T24 l0_1 x6_1).f1) : Int).toNat ((sx44) ++ ((rdOf ByteArray.empty xz7000_1 ((rd_T24 l0_1 x6_1).f1)).extract 0 (rdOf ByteArray.empty xz7000_1 ((rd_T24 l0_1 x6_1).f1)).size)))) else (none)) else (none)) else (none)) else (none)) = some (r1, r2) := by first | (rw [hsx44] at H; exact H) | (simp only [hsx44] at H ⊢; exact H) | exact H
  by_cases c45 : 0 ≤ ((rd_T24 l0_1 x6_1).f1)
  rotate_left
  ·rw [if_neg c45] at H
   exact absurd H (by simp)
  rw [if_pos c45] at H
  have c45b0 : decide (0 ≤ ((rd_T24 l0_1 x6_1).f1)) = true := decide_eq_true c45
  clear c45
  by_cases c46 : ((rd_T24 l0_1 x6_1).f1) < (xz7000_1.length : Int)
  rotate_left
  ·rw [if_neg c46] at H
   exact absurd H (by simp)
  rw [if_pos c46] at H
  have c46b0 : decide (((rd_T24 l0_1 x6_1).f1) < (xz7000_1.length : Int)) = true := decide_eq_true c46
  clear c46
  by_cases c47 : 0 ≤ ((rdOf ByteArray.empty xz7000_1 ((rd_T24 l0_1 x6_1).f1)).size : Int)
  rotate_left
  ·rw [if_neg c47] at H
   exact absurd H (by simp)
  rw [if_pos c47] at H
  have c47b0 := eq_true c47
  have c47b1 : decide (0 ≤ ((rdOf ByteArray.empty xz7000_1 ((rd_T24 l0_1 x6_1).f1)).size : Int)) = true := decide_eq_true c47
  clear c47
  obtain ⟨sx48, hsx48⟩ : ∃ s_ : ByteArray, ((rdOf ByteArray.empty xz7000_1 ((rd_T24 l0_1 x6_1).f1)).extract 0 (rdOf ByteArray.empty xz7000_1 ((rd_T24 l0_1 x6_1).f1)).size) = s_ := ⟨_, rfl⟩
  replace H : (if (sx44).size + (sx48).size ≤ 9223372036854775807 then (columbariumref14_fallen.l0 k1 l1 (wrap64 (x6_1 + 1)) l0_0 l0_1 (xz7000_1.set (((rd_T24 l0_1 x6_1).f1) : Int).toNat ((sx44) ++ (sx48)))) else (none)) = some (r1, r2) := by first | (rw [hsx48] at H; exact H) | (simp only [hsx48] at H ⊢; exact H) | exact H
  by_cases c49 : (sx44).size + (sx48).size ≤ 9223372036854775807
  rotate_left
  ·rw [if_neg c49] at H
   exact absurd H (by simp)
  rw [if_pos c49] at H
  have c49b0 := eq_true c49
  have c49b1 : decide ((sx44).size + (sx48).size ≤ 9223372036854775807) = true := decide_eq_true c49
  try have c49b2 : (9223372036854775807 < (sx44).size + (sx48).size) = False := eq_false (Nat.not_lt.2 c49)
  obtain ⟨sx50, hsx50⟩ : ∃ s_ : ByteArray, ((sx44) ++ (sx48)) = s_ := ⟨_, rfl⟩
  replace H : (columbariumref14_fallen.l0 k1 l1 (wrap64 (x6_1 + 1)) l0_0 l0_1 (xz7000_1.set (((rd_T24 l0_1 x6_1).f1) : Int).toNat (sx50))) = some (r1, r2) := by first | (rw [hsx50] at H; exact H) | (simp only [hsx50] at H ⊢; exact H) | exact H
  have hE_ : sx50 = sx48 := by rw [← hsx50, ← hsx44]; simp
  subst hE_
  have c49c : (9223372036854775807 < sx50.size) = False := eq_false (by omega)
  obtain ⟨yz13, hyz13⟩ : ∃ y_ : List ByteArray, y_ = (xz7000_1.set (((rd_T24 l0_1 x6_1).f1) : Int).toNat (sx50)) := ⟨_, rfl⟩
  replace H : (columbariumref14_fallen.l0 k1 l1 (wrap64 (x6_1 + 1)) l0_0 l0_1 yz13) = some (r1, r2) := by first | (rw [hyz13]; with_reducible exact H) | (have H2_ := (Option.bind_some _ _).symm.trans H; rw [hyz13]; with_reducible exact H2_) | (have H2_ := (Option.bind_some _ _).symm.trans H; with_reducible exact H2_) | with_reducible exact H | (rw [hyz13]; exact H) | exact H
  have Nyz13 := am hyz13
  clear hyz13
  have H' := am H
  clear H
  have hnb52 := NBz1_z2.out
  have hnc52 := NBz2_z1.out
  have hnb53 := NBz1_z6.out
  have hnc53 := NBz6_z1.out
  obtain ⟨hcz54_0, hcz54_1⟩ := bc2 BKz1
  obtain ⟨hfz54_0, hfz54_1⟩ := bf2 BKz1
  have pz7 : 0 ≤ (x6_1 : Int) := of_decide_eq_true (by first | (with_reducible assumption) | assumption)
  have qz7 : x6_1 < (l0_1.length : Int) := of_decide_eq_true (by first | (with_reducible assumption) | assumption)
  obtain ⟨adz7, ez7, hxz7_0, hxz7_1, hxz7_2⟩ := at_T24 HR0_1.out x6_1 pz7 qz7
  cases ez7
  replace hxz7_0 := (HB.out.cell (World.block_lt_of_cell? w _ hxz7_0)).trans hxz7_0
  replace hxz7_1 := (HB.out.cell (World.block_lt_of_cell? w _ hxz7_1)).trans hxz7_1
  replace hxz7_2 := (HB.out.cell (World.block_lt_of_cell? w _ hxz7_2)).trans hxz7_2
  replace pz7 := eq_true pz7
  replace qz7 := eq_true qz7
  try go_wp2_with (first | ((with_reducible refine gate_dst (N := 7) rfl ?_); refine box_event ?hg (N := 7) ?hd (cs := #[.bool false, .int .i64 0, .string (⟨#[]⟩ : ByteArray)]) (t := 24) ?hr ?_; (case hd => rfl); (case hg => rfl); (case hr => first | (go_simp; done) | (go_simp; rfl)); intro gbz8 hg w55 hbox hb; have n0_ := am (Kd.R_below (pr HO_z7000) hb); have n1_ := am (bkB (pk BKz1) hb); have n2_ := am (bkB (pk BKz2) hb); have n3_ := am (bkB (pk BKz6) hb); have n4_ := am (below_step (by repeat first | (with_reducible first | exact HB.out | apply ba | apply bn | apply bd | refine bs (by assumption) ?_) | exact HB.out) hb); have n5_ := am (hbox); have n6_ := ge_ hg (by repeat first | (with_reducible first | exact HB.out | apply ba | apply bn | apply bd | refine bs (by assumption) ?_) | exact HB.out); have n7_ := ge_ hg (by repeat first | (with_reducible first | exact HB.out | apply ba | apply bn | apply bd | refine bs (by assumption) ?_) | exact HB.out); have n8_ := nl_ hg BKz1; have n9_ := ng_ hg BKz1; have n10_ := nl_ hg BKz2; have n11_ := ng_ hg BKz2; have n12_ := nl_ hg BKz6; have n13_ := ng_ hg BKz6; clear HO_z7000; clear BKz1; clear BKz2; clear BKz6; clear HB; have HO_z7000 := n0_; have BKz1 := n1_; have BKz2 := n2_; have BKz6 := n3_; have HB := n4_; have BKz8 := n5_; have GWz8 := n6_; have GEz8 := n7_; have NBz1_z8 := n8_; have NBz8_z1 := n9_; have NBz2_z8 := n10_; have NBz8_z2 := n11_; have NBz6_z8 := n12_; have NBz8_z6 := n13_; clear n0_ n1_ n2_ n3_ n4_ n5_ n6_ n7_ n8_ n9_ n10_ n11_ n12_ n13_; clear hb hbox hg; have hnb56 := NBz8_z1.out; have hnc56 := NBz1_z8.out; have hnb57 := NBz8_z2.out; have hnc57 := NBz2_z8.out; have hnb58 := NBz8_z6.out; have hnc58 := NBz6_z8.out; obtain ⟨hcz59_0, hcz59_1, hcz59_2⟩ := bc3 BKz8; obtain ⟨hfz59_0, hfz59_1, hfz59_2⟩ := bf3 BKz8))
  have n0_ : Aside0 (Kd.R Kd.string 9 (((w55.setCell ⟨gbz8, 0, none⟩ (.bool ((rd_T24 l0_1 x6_1).f0))).setCell ⟨gbz8, 1, none⟩ (.int .i64 ((rd_T24 l0_1 x6_1).f1))).setCell ⟨gbz8, 2, none⟩ (.string ((rd_T24 l0_1 x6_1).f2))) w.heap.size (fun _ => True) uz7000 xz7000_1) := ⟨by (with_reducible repeat first | apply ra | apply rn | apply rd); exact Kd.R_mono (rf3 (Kd.R_types HO_z7000.out BKz8.out (by decide)) (fun _ hk => hk.2)) (fun _ hk => trivial)⟩
  have n1_ : Aside0 ((((w55.setCell ⟨gbz8, 0, none⟩ (.bool ((rd_T24 l0_1 x6_1).f0))).setCell ⟨gbz8, 1, none⟩ (.int .i64 ((rd_T24 l0_1 x6_1).f1))).setCell ⟨gbz8, 2, none⟩ (.string ((rd_T24 l0_1 x6_1).f2))).heap[gbz1]? = some (.cells #[.slice A0_0 l0_0.length c0_0, .slice (some adz7) l0_1.length c0_1] 30 (0, 0))) := ⟨by (with_reducible repeat (first | refine blk_drewN ?_ _ | refine bkD ?_ | refine bkA ?_ _)); refine blk_far ?_ NBz1_z8.out _; refine blk_far ?_ NBz1_z8.out _; refine blk_far ?_ NBz1_z8.out _; (with_reducible repeat (first | refine blk_drewN ?_ _ | refine bkD ?_ | refine bkA ?_ _)); exact BKz1.out⟩
  have n2_ : Aside0 ((((w55.setCell ⟨gbz8, 0, none⟩ (.bool ((rd_T24 l0_1 x6_1).f0))).setCell ⟨gbz8, 1, none⟩ (.int .i64 ((rd_T24 l0_1 x6_1).f1))).setCell ⟨gbz8, 2, none⟩ (.string ((rd_T24 l0_1 x6_1).f2))).heap[gbz2]? = some (.cells #[.slice none 0 0, .slice none 0 0] 30 (0, 0))) := ⟨by (with_reducible repeat (first | refine blk_drewN ?_ _ | refine bkD ?_ | refine bkA ?_ _)); refine blk_far ?_ NBz2_z8.out _; refine blk_far ?_ NBz2_z8.out _; refine blk_far ?_ NBz2_z8.out _; (with_reducible repeat (first | refine blk_drewN ?_ _ | refine bkD ?_ | refine bkA ?_ _)); exact BKz2.out⟩
  have n3_ : Aside0 ((((w55.setCell ⟨gbz8, 0, none⟩ (.bool ((rd_T24 l0_1 x6_1).f0))).setCell ⟨gbz8, 1, none⟩ (.int .i64 ((rd_T24 l0_1 x6_1).f1))).setCell ⟨gbz8, 2, none⟩ (.string ((rd_T24 l0_1 x6_1).f2))).heap[gbz6]? = some (.cells #[uz7000, .slice none 0 0] 30 (0, 0))) := ⟨by (with_reducible repeat (first | refine blk_drewN ?_ _ | refine bkD ?_ | refine bkA ?_ _)); refine blk_far ?_ NBz6_z8.out _; refine blk_far ?_ NBz6_z8.out _; refine blk_far ?_ NBz6_z8.out _; (with_reducible repeat (first | refine blk_drewN ?_ _ | refine bkD ?_ | refine bkA ?_ _)); exact BKz6.out⟩
  have n4_ : Aside0 ((((w55.setCell ⟨gbz8, 0, none⟩ (.bool ((rd_T24 l0_1 x6_1).f0))).setCell ⟨gbz8, 1, none⟩ (.int .i64 ((rd_T24 l0_1 x6_1).f1))).setCell ⟨gbz8, 2, none⟩ (.string ((rd_T24 l0_1 x6_1).f2))).heap[gbz8]? = some (.cells #[.bool ((rd_T24 l0_1 x6_1).f0), .int .i64 ((rd_T24 l0_1 x6_1).f1), .string ((rd_T24 l0_1 x6_1).f2)] 24 (0, 0))) := ⟨by (with_reducible repeat (first | refine blk_drewN ?_ _ | refine bkD ?_ | refine bkA ?_ _)); apply bp3; (with_reducible repeat (first | refine blk_drewN ?_ _ | refine bkD ?_ | refine bkA ?_ _)); exact BKz8.out⟩
  have n5_ : Aside0 (Below w.heap.size w (((w55.setCell ⟨gbz8, 0, none⟩ (.bool ((rd_T24 l0_1 x6_1).f0))).setCell ⟨gbz8, 1, none⟩ (.int .i64 ((rd_T24 l0_1 x6_1).f1))).setCell ⟨gbz8, 2, none⟩ (.string ((rd_T24 l0_1 x6_1).f2)))) := ⟨by repeat first | (with_reducible first | exact HB.out | apply ba | apply bn | apply bd | refine bs (by assumption) ?_) | exact HB.out⟩
  (try clear HO_z7000); (try clear BKz1); (try clear BKz2); (try clear BKz6); (try clear BKz8); (try clear HB)
  generalize (((w55.setCell ⟨gbz8, 0, none⟩ (.bool ((rd_T24 l0_1 x6_1).f0))).setCell ⟨gbz8, 1, none⟩ (.int .i64 ((rd_T24 l0_1 x6_1).f1))).setCell ⟨gbz8, 2, none⟩ (.string ((rd_T24 l0_1 x6_1).f2))) = w60 at n0_ n1_ n2_ n3_ n4_ n5_ ⊢
  have HO_z7000 := n0_; have BKz1 := n1_; have BKz2 := n2_; have BKz6 := n3_; have BKz8 := n4_; have HB := n5_; clear n0_ n1_ n2_ n3_ n4_ n5_
  have n0_ := am (Kd.R_drew HO_z7000.out)
  have n1_ := am (bkD BKz1.out)
  have n2_ := am (bkD BKz2.out)
  have n3_ := am (bkD BKz6.out)
  have n4_ := am (bkD BKz8.out)
  have n5_ := am (below_drew1 HB.out)
  clear HO_z7000 BKz1 BKz2 BKz6 BKz8 HB; have HO_z7000 := n0_; have BKz1 := n1_; have BKz2 := n2_; have BKz6 := n3_; have BKz8 := n4_; have HB := n5_; clear n0_ n1_ n2_ n3_ n4_ n5_
  obtain ⟨Ao62, co62, eo62⟩ := Kd.R_slice HO_z7000.out
  (first | subst eo62 | (injection eo62 with f1_ f2_ f3_; have f4_ := f1_.symm; have f5_ := f3_.symm; clear f1_ f2_ f3_; subst f4_; subst f5_))
  have pz12 : 0 ≤ (((rd_T24 l0_1 x6_1).f1) : Int) := of_decide_eq_true (by first | (with_reducible assumption) | assumption)
  have qz12 : ((rd_T24 l0_1 x6_1).f1) < (xz7000_1.length : Int) := of_decide_eq_true (by first | (with_reducible assumption) | assumption)
  obtain ⟨adz12, ez12, hxz12_0⟩ := Kd.at_string (Kd.R_reads' HO_z7000.out).2.2 ((rd_T24 l0_1 x6_1).f1) pz12 qz12
  cases ez12
  replace pz12 := eq_true pz12
  replace qz12 := eq_true qz12
  have p51 : 0 ≤ (((rd_T24 l0_1 x6_1).f1) : Int) := of_decide_eq_true (by first | (with_reducible assumption) | assumption)
  have q51 : (((rd_T24 l0_1 x6_1).f1) : Int) < ((xz7000_1.length : Int) : Int) := of_decide_eq_true (by first | (with_reducible assumption) | assumption)
  obtain ⟨go51, co51, eo51, gb51, gl51, cl51, HG51⟩ := Kd.R_form HO_z7000.out (by omega)
  (first | cases eo51 | (injection eo51 with ea_ en_ ec_; (first | subst ea_ | (injection ea_ with ea_; subst ea_)); subst ec_; clear en_))
  have GB51 := Aside0.mk gb51
  have GG51 := am HG51
  clear gb51 gl51 HG51
  (first | simp only [add_plain] at hxz12_0 | skip)
  obtain ⟨hx51_0, hf51_0⟩ := Kd.R_celln (⟨#[]⟩ : ByteArray) HO_z7000.out (((rd_T24 l0_1 x6_1).f1) : Int) p51 q51
  replace p51 := eq_true p51
  replace q51 := eq_true q51
  have HP63 := Kd.R_putn HO_z7000.out (((rd_T24 l0_1 x6_1).f1) : Int) sx50
  rw [← Nyz13.out] at HP63
  have HQ63 := am HP63
  clear HP63
  refine start_ (n := 19) (S := fun w' => w'.cell? ⟨gbz6, 0, none⟩ = some (.slice (some ⟨go51, 0, none⟩) xz7000_1.length co62) ∧ w'.cell? ⟨gbz6, 1, none⟩ = some (.slice none 0 0) ∧ w'.cell? ⟨gbz8, 0, none⟩ = some (.bool ((rd_T24 l0_1 x6_1).f0)) ∧ w'.cell? ⟨gbz8, 1, none⟩ = some (.int .i64 ((rd_T24 l0_1 x6_1).f1)) ∧ w'.cell? ⟨gbz8, 2, none⟩ = some (.string ((rd_T24 l0_1 x6_1).f2)) ∧ w'.cell? ⟨go51, (((rd_T24 l0_1 x6_1).f1)).toNat, none⟩ = some (.string (rdOf ByteArray.empty xz7000_1 ((rd_T24 l0_1 x6_1).f1)))) (ds := [18]) #[false, false, false, false, false, false, false, false, false, false, false, false, false, false, false, false, false, false, false] (by kernel_rfl) rfl rfl ⟨(blk_cell BKz6.out 0).trans rfl, (blk_cell BKz6.out 1).trans rfl, (blk_cell BKz8.out 0).trans rfl, (blk_cell BKz8.out 1).trans rfl, (blk_cell BKz8.out 2).trans rfl, hxz12_0⟩ (fun hHeld => ?_); refine with_tabW columbariumref14_fallen.tab9 columbariumref14_fallen.bits9 (fun HT_ HW_ => ?_)
  generalize w60.drew = w61 at HO_z7000 BKz1 BKz2 BKz6 BKz8 HB GG51 HQ63 hf51_0 hxz12_0 hx51_0 hHeld ⊢
  refine pu_ 0 (some 35) HT_ rfl rfl (.inl ⟨by rfl, by intro w'; go_simp; with_reducible rfl⟩) (by simp only [Act.put, sa_, s0_, s1_, i64_w, i32_w]; rfl) ?_
  refine pu_ 2 (some 37) HT_ rfl rfl (.inl ⟨by rfl, by intro w'; go_simp; with_reducible rfl⟩) (by simp only [Act.put, sa_, s0_, s1_, i64_w, i32_w]; rfl) ?_
  refine pu_ 4 (some 39) HT_ rfl rfl (.inl ⟨by rfl, by intro w'; go_simp; with_reducible rfl⟩) (by simp only [Act.put, sa_, s0_, s1_, i64_w, i32_w]; rfl) ?_
  refine pu_ 6 (some 41) HT_ rfl rfl (.inl ⟨by rfl, by intro w'; go_simp; with_reducible rfl⟩) (by simp only [Act.put, sa_, s0_, s1_, i64_w, i32_w]; rfl) ?_
  refine pu_ 8 (some 43) HT_ rfl rfl (.inl ⟨by rfl, by intro w'; go_simp; with_reducible rfl⟩) (by simp only [Act.put, sa_, s0_, s1_, i64_w, i32_w]; rfl) ?_
  refine pu_ 10 (some 45) HT_ rfl rfl (.inl ⟨by rfl, by intro w'; go_simp; with_reducible rfl⟩) (by simp only [Act.put, sa_, s0_, s1_, i64_w, i32_w]; rfl) ?_
  refine pu_ 14 (some 49) HT_ rfl rfl (.inl ⟨by rfl, by intro w'; go_simp; with_reducible rfl⟩) (by simp only [Act.put, sa_, s0_, s1_, i64_w, i32_w]; rfl) ?_
  refine tk_ 1 (some 36) HT_ HW_ rfl rfl (.inl ⟨by rfl, by rintro w' ⟨s0, s1, s2, s3, s4, s5⟩; go_simp; with_reducible rfl⟩) hHeld (by simp only [Act.put, sa_, s0_, s1_, i64_w, i32_w]; rfl) ?_
  refine tk_ 3 (some 38) HT_ HW_ rfl rfl (.inl ⟨by rfl, by rintro w' ⟨s0, s1, s2, s3, s4, s5⟩; go_simp; with_reducible rfl⟩) hHeld (by simp only [Act.put, sa_, s0_, s1_, i64_w, i32_w]; rfl) ?_
  refine tk_ 5 (some 40) HT_ HW_ rfl rfl (.inl ⟨by rfl, by rintro w' ⟨s0, s1, s2, s3, s4, s5⟩; go_simp; with_reducible rfl⟩) hHeld (by simp only [Act.put, sa_, s0_, s1_, i64_w, i32_w]; rfl) ?_
  refine pu_ 7 (some 42) HT_ rfl rfl (.inl ⟨by rfl, by intro w'; go_simp; with_reducible rfl⟩) (by simp only [Act.put, sa_, s0_, s1_, i64_w, i32_w]; rfl) ?_
  refine tk_ 9 (some 44) HT_ HW_ rfl rfl (.inl ⟨by rfl, by rintro w' ⟨s0, s1, s2, s3, s4, s5⟩; go_simp; with_reducible rfl⟩) hHeld (by simp only [Act.put, sa_, s0_, s1_, i64_w, i32_w]; rfl) ?_
  refine tk_ 11 (some 46) HT_ HW_ rfl rfl (.inl ⟨by rfl, by rintro w' ⟨s0, s1, s2, s3, s4, s5⟩; go_simp; with_reducible rfl⟩) hHeld (by simp only [Act.put, sa_, s0_, s1_, i64_w, i32_w]; rfl) ?_
  refine pu_ 12 (some 47) HT_ rfl rfl (.inl ⟨by rfl, by intro w'; go_simp; with_reducible rfl⟩) (by simp only [Act.put, sa_, s0_, s1_, i64_w, i32_w]; rfl) ?_
  refine tk_ 13 (some 48) HT_ HW_ rfl rfl (.inl ⟨by rfl, by rintro w' ⟨s0, s1, s2, s3, s4, s5⟩; go_simp; with_reducible rfl⟩) hHeld (by simp only [Act.put, sa_, s0_, s1_, i64_w, i32_w]; rfl) ?_
  refine pu_ 15 (some 50) HT_ rfl rfl (.inl ⟨by rfl, by intro w'; go_simp; with_reducible rfl⟩) (by simp only [Act.put, sa_, s0_, s1_, i64_w, i32_w]; rfl) ?_
  refine pu_ 16 (some 51) HT_ rfl rfl (.inl ⟨by rfl, by intro w'; go_simp; with_reducible rfl⟩) (by simp only [Act.put, sa_, s0_, s1_, i64_w, i32_w]; rfl) ?_
  refine pu_ 17 (some 52) HT_ rfl rfl (.inl ⟨by rfl, by intro w'; go_simp; with_reducible rfl⟩) (by simp only [Act.put, sa_, s0_, s1_, i64_w, i32_w]; rfl) ?_
  refine la_ 18 none HT_ rfl rfl (fun K hK => ?_)
  refine skip_ (by rfl) rfl (by go_simp; rfl) ?_
  refine hK.out _ _ ?_
  clear hK K
  refine done_ (done_of HT_.out (by kernel_rfl)) ?_
  try go_wp2
  go_roundg k1
  case measure => have := HK1.out; omega
  case rel => exact ⟨(wrap64 (x6_1 + 1)), (yz13), (.slice (some ⟨go51, 0, none⟩) xz7000_1.length co62), (by first | rfl | (simp; done) | (simp [*]; done)), H', ⟨by have := HK1.out; omega⟩, ⟨by (with_reducible repeat first | apply ra | apply rn | apply rd); exact HQ63.out⟩, ⟨by (with_reducible repeat (first | refine blk_drewN ?_ _ | refine bkD ?_ | refine bkA ?_ _)); refine blk_far ?_ (by have h_ := Kd.R_ne HO_z7000.out BKz1.out (by decide); intro e_; exact h_ (by rw [e_]; rfl)) _; (with_reducible repeat (first | refine blk_drewN ?_ _ | refine bkD ?_ | refine bkA ?_ _)); exact BKz1.out⟩, ⟨by (with_reducible repeat (first | refine blk_drewN ?_ _ | refine bkD ?_ | refine bkA ?_ _)); refine blk_far ?_ (by have h_ := Kd.R_ne HO_z7000.out BKz2.out (by decide); intro e_; exact h_ (by rw [e_]; rfl)) _; (with_reducible repeat (first | refine blk_drewN ?_ _ | refine bkD ?_ | refine bkA ?_ _)); exact BKz2.out⟩, ⟨by (with_reducible repeat (first | refine blk_drewN ?_ _ | refine bkD ?_ | refine bkA ?_ _)); refine blk_far ?_ (by have h_ := Kd.R_ne HO_z7000.out BKz6.out (by decide); intro e_; exact h_ (by rw [e_]; rfl)) _; (with_reducible repeat (first | refine blk_drewN ?_ _ | refine bkD ?_ | refine bkA ?_ _)); exact BKz6.out⟩, ⟨by repeat (first | (with_reducible first | exact HB.out | apply below_alloc | apply pw_below_drewN | apply below_drew1 | refine below_set ?_ GB51.out | refine below_set ?_ GEz1.out | refine below_set ?_ GEz2.out | refine below_set ?_ GEz6.out | refine below_set ?_ GEz8.out) | exact HB.out)⟩⟩
 rw [if_pos c16] at H
 have c16b0 : decide (x6_1 < (l1.length : Int)) = true := decide_eq_true c16
 clear c16
 obtain ⟨ji17, hji17⟩ : ∃ j_ : Int, (mn (rd l1 x6_1) 64) = j_ := ⟨_, rfl⟩
 replace H : (if 0 ≤ (mx 0 (ji17)) then (if (mx 0 (ji17)) ≤ (((rd_T24 l0_1 x6_1).f2).size : Int) then (if 0 ≤ ((rd_T24 l0_1 x6_1).f1) then (if ((rd_T24 l0_1 x6_1).f1) < (xz7000_1.length : Int) then (if (mx 0 (ji17)) ≤ ((rdOf ByteArray.empty xz7000_1 ((rd_T24 l0_1 x6_1).f1)).size : Int) then (if (((rd_T24 l0_1 x6_1).f2).extract 0 ((mx 0 (ji17)) : Int).toNat).size + ((rdOf ByteArray.empty xz7000_1 ((rd_T24 l0_1 x6_1).f1)).extract ((mx 0 (ji17)) : Int).toNat (rdOf ByteArray.empty xz7000_1 ((rd_T24 l0_1 x6_1).f1)).size).size ≤ 9223372036854775807 then (columbariumref14_fallen.l0 k1 l1 (wrap64 (x6_1 + 1)) l0_0 l0_1 (xz7000_1.set (((rd_T24 l0_1 x6_1).f1) : Int).toNat ((((rd_T24 l0_1 x6_1).f2).extract 0 ((mx 0 (ji17)) : Int).toNat) ++ ((rdOf ByteArray.empty xz7000_1 ((rd_T24 l0_1 x6_1).f1)).extract ((mx 0 (ji17)) : Int).toNat (rdOf ByteArray.empty xz7000_1 ((rd_T24 l0_1 x6_1).f1)).size)))) else (none)) else (none)) else (none)) else (none)) else (none)) else (none)) = some (r1, r2) := by first | (rw [hji17] at H; exact H) | (simp only [hji17] at H ⊢; exact H)
 have hji17_ : (if 64 < (rd l1 x6_1) then 64 else (rd l1 x6_1)) = ji17 := hji17
 obtain ⟨ji18, hji18⟩ : ∃ j_ : Int, (mx 0 (ji17)) = j_ := ⟨_, rfl⟩
 replace H : (if 0 ≤ (ji18) then (if (ji18) ≤ (((rd_T24 l0_1 x6_1).f2).size : Int) then (if 0 ≤ ((rd_T24 l0_1 x6_1).f1) then (if ((rd_T24 l0_1 x6_1).f1) < (xz7000_1.length : Int) then (if (ji18) ≤ ((rdOf ByteArray.empty xz7000_1 ((rd_T24 l0_1 x6_1).f1)).size : Int) then (if (((rd_T24 l0_1 x6_1).f2).extract 0 ((ji18) : Int).toNat).size + ((rdOf ByteArray.empty xz7000_1 ((rd_T24 l0_1 x6_1).f1)).extract ((ji18) : Int).toNat (rdOf ByteArray.empty xz7000_1 ((rd_T24 l0_1 x6_1).f1)).size).size ≤ 9223372036854775807 then (columbariumref14_fallen.l0 k1 l1 (wrap64 (x6_1 + 1)) l0_0 l0_1 (xz7000_1.set (((rd_T24 l0_1 x6_1).f1) : Int).toNat ((((rd_T24 l0_1 x6_1).f2).extract 0 ((ji18) : Int).toNat) ++ ((rdOf ByteArray.empty xz7000_1 ((rd_T24 l0_1 x6_1).f1)).extract ((ji18) : Int).toNat (rdOf ByteArray.empty xz7000_1 ((rd_T24 l0_1 x6_1).f1)).size)))) else (none)) else (none)) else (none)) else (none)) else (none)) else (none)) = some (r1, r2) := by first | (rw [hji18] at H; exact H) | (simp only [hji18] at H ⊢; exact H)
 have hji18_ : (if 0 < (ji17) then (ji17) else 0) = ji18 := hji18
 by_cases c19 : 0 ≤ (ji18)
 rotate_left
 ·rw [if_neg c19] at H
  exact absurd H (by simp)
 rw [if_pos c19] at H
 have c19b0 := eq_true c19
 have c19b1 : decide (0 ≤ (ji18)) = true := decide_eq_true c19
 clear c19
 by_cases c20 : (ji18) ≤ (((rd_T24 l0_1 x6_1).f2).size : Int)
 rotate_left
 ·rw [if_neg c20] at H
  exact absurd H (by simp)
 rw [if_pos c20] at H
 have c20b0 := eq_true c20
 have c20b1 : decide ((ji18) ≤ (((rd_T24 l0_1 x6_1).f2).size : Int)) = true := decide_eq_true c20
 clear c20
 obtain ⟨sx21, hsx21⟩ : ∃ s_ : ByteArray, (((rd_T24 l0_1 x6_1).f2).extract 0 ((ji18) : Int).toNat) = s_ := ⟨_, rfl⟩
 replace H : (if 0 ≤ ((rd_T24 l0_1 x6_1).f1) then (if ((rd_T24 l0_1 x6_1).f1) < (xz7000_1.length : Int) then (if (ji18) ≤ ((rdOf ByteArray.empty xz7000_1 ((rd_T24 l0_1 x6_1).f1)).size : Int) then (if (sx21).size + ((rdOf ByteArray.empty xz7000_1 ((rd_T24 l0_1 x6_1).f1)).extract ((ji18) : Int).toNat (rdOf ByteArray.empty xz7000_1 ((rd_T24 l0_1 x6_1).f1)).size).size ≤ 9223372036854775807 then (columbariumref14_fallen.l0 k1 l1 (wrap64 (x6_1 + 1)) l0_0 l0_1 (xz7000_1.set (((rd_T24 l0_1 x6_1).f1) : Int).toNat ((sx21) ++ ((rdOf ByteArray.empty xz7000_1 ((rd_T24 l0_1 x6_1).f1)).extract ((ji18) : Int).toNat (rdOf ByteArray.empty xz7000_1 ((rd_T24 l0_1 x6_1).f1)).size)))) else (none)) else (none)) else (none)) else (none)) = some (r1, r2) := by first | (rw [hsx21] at H; exact H) | (simp only [hsx21] at H ⊢; exact H) | exact H
 by_cases c22 : 0 ≤ ((rd_T24 l0_1 x6_1).f1)
 rotate_left
 ·rw [if_neg c22] at H
  exact absurd H (by simp)
 rw [if_pos c22] at H
 have c22b0 : decide (0 ≤ ((rd_T24 l0_1 x6_1).f1)) = true := decide_eq_true c22
 clear c22
 by_cases c23 : ((rd_T24 l0_1 x6_1).f1) < (xz7000_1.length : Int)
 rotate_left
 ·rw [if_neg c23] at H
  exact absurd H (by simp)
 rw [if_pos c23] at H
 have c23b0 : decide (((rd_T24 l0_1 x6_1).f1) < (xz7000_1.length : Int)) = true := decide_eq_true c23
 clear c23
 have c24b0 := eq_true (of_decide_eq_true (by first | (with_reducible assumption) | assumption) : 0 ≤ (ji18))
 by_cases c25 : (ji18) ≤ ((rdOf ByteArray.empty xz7000_1 ((rd_T24 l0_1 x6_1).f1)).size : Int)
 rotate_left
 ·rw [if_neg c25] at H
  exact absurd H (by simp)
 rw [if_pos c25] at H
 have c25b0 := eq_true c25
 have c25b1 : decide ((ji18) ≤ ((rdOf ByteArray.empty xz7000_1 ((rd_T24 l0_1 x6_1).f1)).size : Int)) = true := decide_eq_true c25
 clear c25
 obtain ⟨sx26, hsx26⟩ : ∃ s_ : ByteArray, ((rdOf ByteArray.empty xz7000_1 ((rd_T24 l0_1 x6_1).f1)).extract ((ji18) : Int).toNat (rdOf ByteArray.empty xz7000_1 ((rd_T24 l0_1 x6_1).f1)).size) = s_ := ⟨_, rfl⟩
 replace H : (if (sx21).size + (sx26).size ≤ 9223372036854775807 then (columbariumref14_fallen.l0 k1 l1 (wrap64 (x6_1 + 1)) l0_0 l0_1 (xz7000_1.set (((rd_T24 l0_1 x6_1).f1) : Int).toNat ((sx21) ++ (sx26)))) else (none)) = some (r1, r2) := by first | (rw [hsx26] at H; exact H) | (simp only [hsx26] at H ⊢; exact H) | exact H
 by_cases c27 : (sx21).size + (sx26).size ≤ 9223372036854775807
 rotate_left
 ·rw [if_neg c27] at H
  exact absurd H (by simp)
 rw [if_pos c27] at H
 have c27b0 := eq_true c27
 have c27b1 : decide ((sx21).size + (sx26).size ≤ 9223372036854775807) = true := decide_eq_true c27
 try have c27b2 : (9223372036854775807 < (sx21).size + (sx26).size) = False := eq_false (Nat.not_lt.2 c27)
 obtain ⟨sx28, hsx28⟩ : ∃ s_ : ByteArray, ((sx21) ++ (sx26)) = s_ := ⟨_, rfl⟩
 replace H : (columbariumref14_fallen.l0 k1 l1 (wrap64 (x6_1 + 1)) l0_0 l0_1 (xz7000_1.set (((rd_T24 l0_1 x6_1).f1) : Int).toNat (sx28))) = some (r1, r2) := by first | (rw [hsx28] at H; exact H) | (simp only [hsx28] at H ⊢; exact H) | exact H
 obtain ⟨yz11, hyz11⟩ : ∃ y_ : List ByteArray, y_ = (xz7000_1.set (((rd_T24 l0_1 x6_1).f1) : Int).toNat (sx28)) := ⟨_, rfl⟩
 replace H : (columbariumref14_fallen.l0 k1 l1 (wrap64 (x6_1 + 1)) l0_0 l0_1 yz11) = some (r1, r2) := by first | (rw [hyz11]; with_reducible exact H) | (have H2_ := (Option.bind_some _ _).symm.trans H; rw [hyz11]; with_reducible exact H2_) | (have H2_ := (Option.bind_some _ _).symm.trans H; with_reducible exact H2_) | with_reducible exact H | (rw [hyz11]; exact H) | exact H
 have Nyz11 := am hyz11
 clear hyz11
 have H' := am H
 clear H
 have hnb30 := NBz1_z2.out
 have hnc30 := NBz2_z1.out
 have hnb31 := NBz1_z6.out
 have hnc31 := NBz6_z1.out
 obtain ⟨hcz32_0, hcz32_1⟩ := bc2 BKz1
 obtain ⟨hfz32_0, hfz32_1⟩ := bf2 BKz1
 have pz7 : 0 ≤ (x6_1 : Int) := of_decide_eq_true (by first | (with_reducible assumption) | assumption)
 have qz7 : x6_1 < (l0_1.length : Int) := of_decide_eq_true (by first | (with_reducible assumption) | assumption)
 obtain ⟨adz7, ez7, hxz7_0, hxz7_1, hxz7_2⟩ := at_T24 HR0_1.out x6_1 pz7 qz7
 cases ez7
 replace hxz7_0 := (HB.out.cell (World.block_lt_of_cell? w _ hxz7_0)).trans hxz7_0
 replace hxz7_1 := (HB.out.cell (World.block_lt_of_cell? w _ hxz7_1)).trans hxz7_1
 replace hxz7_2 := (HB.out.cell (World.block_lt_of_cell? w _ hxz7_2)).trans hxz7_2
 replace pz7 := eq_true pz7
 replace qz7 := eq_true qz7
 try go_wp2_with (first | ((with_reducible refine gate_dst (N := 7) rfl ?_); refine box_event ?hg (N := 7) ?hd (cs := #[.bool false, .int .i64 0, .string (⟨#[]⟩ : ByteArray)]) (t := 24) ?hr ?_; (case hd => rfl); (case hg => rfl); (case hr => first | (go_simp; done) | (go_simp; rfl)); intro gbz8 hg w33 hbox hb; have n0_ := am (Kd.R_below (pr HO_z7000) hb); have n1_ := am (bkB (pk BKz1) hb); have n2_ := am (bkB (pk BKz2) hb); have n3_ := am (bkB (pk BKz6) hb); have n4_ := am (below_step (by repeat first | (with_reducible first | exact HB.out | apply ba | apply bn | apply bd | refine bs (by assumption) ?_) | exact HB.out) hb); have n5_ := am (hbox); have n6_ := ge_ hg (by repeat first | (with_reducible first | exact HB.out | apply ba | apply bn | apply bd | refine bs (by assumption) ?_) | exact HB.out); have n7_ := ge_ hg (by repeat first | (with_reducible first | exact HB.out | apply ba | apply bn | apply bd | refine bs (by assumption) ?_) | exact HB.out); have n8_ := nl_ hg BKz1; have n9_ := ng_ hg BKz1; have n10_ := nl_ hg BKz2; have n11_ := ng_ hg BKz2; have n12_ := nl_ hg BKz6; have n13_ := ng_ hg BKz6; clear HO_z7000; clear BKz1; clear BKz2; clear BKz6; clear HB; have HO_z7000 := n0_; have BKz1 := n1_; have BKz2 := n2_; have BKz6 := n3_; have HB := n4_; have BKz8 := n5_; have GWz8 := n6_; have GEz8 := n7_; have NBz1_z8 := n8_; have NBz8_z1 := n9_; have NBz2_z8 := n10_; have NBz8_z2 := n11_; have NBz6_z8 := n12_; have NBz8_z6 := n13_; clear n0_ n1_ n2_ n3_ n4_ n5_ n6_ n7_ n8_ n9_ n10_ n11_ n12_ n13_; clear hb hbox hg; have hnb34 := NBz8_z1.out; have hnc34 := NBz1_z8.out; have hnb35 := NBz8_z2.out; have hnc35 := NBz2_z8.out; have hnb36 := NBz8_z6.out; have hnc36 := NBz6_z8.out; obtain ⟨hcz37_0, hcz37_1, hcz37_2⟩ := bc3 BKz8; obtain ⟨hfz37_0, hfz37_1, hfz37_2⟩ := bf3 BKz8; have pz9 : 0 ≤ (x6_1 : Int) := of_decide_eq_true (by first | (with_reducible assumption) | assumption); have qz9 : x6_1 < (l1.length : Int) := of_decide_eq_true (by first | (with_reducible assumption) | assumption); obtain ⟨adz9, ez9, hxz9_0⟩ := Kd.at_int HR1.out x6_1 pz9 qz9; cases ez9; have hnz9_0 : adz9.block ≠ gbz8 := Nat.ne_of_lt (Nat.lt_of_lt_of_le (by have := World.block_lt_of_cell? _ _ hxz9_0; first | rwa [add_block] at this | exact this) GWz8.out); have hnz9_1 : adz9.block ≠ gbz8 := Nat.ne_of_lt (Nat.lt_of_lt_of_le (by have := World.block_lt_of_cell? _ _ hxz9_0; first | rwa [add_block] at this | exact this) GWz8.out); have hnz9_2 : adz9.block ≠ gbz8 := Nat.ne_of_lt (Nat.lt_of_lt_of_le (by have := World.block_lt_of_cell? _ _ hxz9_0; first | rwa [add_block] at this | exact this) GWz8.out); replace hxz9_0 := (HB.out.cell (World.block_lt_of_cell? w _ hxz9_0)).trans hxz9_0; replace hxz9_0 := (cell_far (p := ⟨gbz8, 0, none⟩) (by first | (rw [add_block]; exact hnz9_0) | (show (Addr.add _ _).block ≠ _; rw [add_block]; exact hnz9_0) | exact hnz9_0) (.bool ((rd_T24 l0_1 x6_1).f0))).trans hxz9_0; replace hxz9_0 := (cell_far (p := ⟨gbz8, 1, none⟩) (by first | (rw [add_block]; exact hnz9_1) | (show (Addr.add _ _).block ≠ _; rw [add_block]; exact hnz9_1) | exact hnz9_1) (.int .i64 ((rd_T24 l0_1 x6_1).f1))).trans hxz9_0; replace hxz9_0 := (cell_far (p := ⟨gbz8, 2, none⟩) (by first | (rw [add_block]; exact hnz9_2) | (show (Addr.add _ _).block ≠ _; rw [add_block]; exact hnz9_2) | exact hnz9_2) (.string ((rd_T24 l0_1 x6_1).f2))).trans hxz9_0; clear hnz9_0; clear hnz9_1; clear hnz9_2; replace pz9 := eq_true pz9; replace qz9 := eq_true qz9))
 have n0_ : Aside0 (Kd.R Kd.string 9 (((w33.setCell ⟨gbz8, 0, none⟩ (.bool ((rd_T24 l0_1 x6_1).f0))).setCell ⟨gbz8, 1, none⟩ (.int .i64 ((rd_T24 l0_1 x6_1).f1))).setCell ⟨gbz8, 2, none⟩ (.string ((rd_T24 l0_1 x6_1).f2))) w.heap.size (fun _ => True) uz7000 xz7000_1) := ⟨by (with_reducible repeat first | apply ra | apply rn | apply rd); exact Kd.R_mono (rf3 (Kd.R_types HO_z7000.out BKz8.out (by decide)) (fun _ hk => hk.2)) (fun _ hk => trivial)⟩
 have n1_ : Aside0 ((((w33.setCell ⟨gbz8, 0, none⟩ (.bool ((rd_T24 l0_1 x6_1).f0))).setCell ⟨gbz8, 1, none⟩ (.int .i64 ((rd_T24 l0_1 x6_1).f1))).setCell ⟨gbz8, 2, none⟩ (.string ((rd_T24 l0_1 x6_1).f2))).heap[gbz1]? = some (.cells #[.slice A0_0 l0_0.length c0_0, .slice (some adz7) l0_1.length c0_1] 30 (0, 0))) := ⟨by (with_reducible repeat (first | refine blk_drewN ?_ _ | refine bkD ?_ | refine bkA ?_ _)); refine blk_far ?_ NBz1_z8.out _; refine blk_far ?_ NBz1_z8.out _; refine blk_far ?_ NBz1_z8.out _; (with_reducible repeat (first | refine blk_drewN ?_ _ | refine bkD ?_ | refine bkA ?_ _)); exact BKz1.out⟩
 have n2_ : Aside0 ((((w33.setCell ⟨gbz8, 0, none⟩ (.bool ((rd_T24 l0_1 x6_1).f0))).setCell ⟨gbz8, 1, none⟩ (.int .i64 ((rd_T24 l0_1 x6_1).f1))).setCell ⟨gbz8, 2, none⟩ (.string ((rd_T24 l0_1 x6_1).f2))).heap[gbz2]? = some (.cells #[.slice none 0 0, .slice none 0 0] 30 (0, 0))) := ⟨by (with_reducible repeat (first | refine blk_drewN ?_ _ | refine bkD ?_ | refine bkA ?_ _)); refine blk_far ?_ NBz2_z8.out _; refine blk_far ?_ NBz2_z8.out _; refine blk_far ?_ NBz2_z8.out _; (with_reducible repeat (first | refine blk_drewN ?_ _ | refine bkD ?_ | refine bkA ?_ _)); exact BKz2.out⟩
 have n3_ : Aside0 ((((w33.setCell ⟨gbz8, 0, none⟩ (.bool ((rd_T24 l0_1 x6_1).f0))).setCell ⟨gbz8, 1, none⟩ (.int .i64 ((rd_T24 l0_1 x6_1).f1))).setCell ⟨gbz8, 2, none⟩ (.string ((rd_T24 l0_1 x6_1).f2))).heap[gbz6]? = some (.cells #[uz7000, .slice none 0 0] 30 (0, 0))) := ⟨by (with_reducible repeat (first | refine blk_drewN ?_ _ | refine bkD ?_ | refine bkA ?_ _)); refine blk_far ?_ NBz6_z8.out _; refine blk_far ?_ NBz6_z8.out _; refine blk_far ?_ NBz6_z8.out _; (with_reducible repeat (first | refine blk_drewN ?_ _ | refine bkD ?_ | refine bkA ?_ _)); exact BKz6.out⟩
 have n4_ : Aside0 ((((w33.setCell ⟨gbz8, 0, none⟩ (.bool ((rd_T24 l0_1 x6_1).f0))).setCell ⟨gbz8, 1, none⟩ (.int .i64 ((rd_T24 l0_1 x6_1).f1))).setCell ⟨gbz8, 2, none⟩ (.string ((rd_T24 l0_1 x6_1).f2))).heap[gbz8]? = some (.cells #[.bool ((rd_T24 l0_1 x6_1).f0), .int .i64 ((rd_T24 l0_1 x6_1).f1), .string ((rd_T24 l0_1 x6_1).f2)] 24 (0, 0))) := ⟨by (with_reducible repeat (first | refine blk_drewN ?_ _ | refine bkD ?_ | refine bkA ?_ _)); apply bp3; (with_reducible repeat (first | refine blk_drewN ?_ _ | refine bkD ?_ | refine bkA ?_ _)); exact BKz8.out⟩
 have n5_ : Aside0 (Below w.heap.size w (((w33.setCell ⟨gbz8, 0, none⟩ (.bool ((rd_T24 l0_1 x6_1).f0))).setCell ⟨gbz8, 1, none⟩ (.int .i64 ((rd_T24 l0_1 x6_1).f1))).setCell ⟨gbz8, 2, none⟩ (.string ((rd_T24 l0_1 x6_1).f2)))) := ⟨by repeat first | (with_reducible first | exact HB.out | apply ba | apply bn | apply bd | refine bs (by assumption) ?_) | exact HB.out⟩
 (try clear HO_z7000); (try clear BKz1); (try clear BKz2); (try clear BKz6); (try clear BKz8); (try clear HB)
 generalize (((w33.setCell ⟨gbz8, 0, none⟩ (.bool ((rd_T24 l0_1 x6_1).f0))).setCell ⟨gbz8, 1, none⟩ (.int .i64 ((rd_T24 l0_1 x6_1).f1))).setCell ⟨gbz8, 2, none⟩ (.string ((rd_T24 l0_1 x6_1).f2))) = w38 at n0_ n1_ n2_ n3_ n4_ n5_ ⊢
 have HO_z7000 := n0_; have BKz1 := n1_; have BKz2 := n2_; have BKz6 := n3_; have BKz8 := n4_; have HB := n5_; clear n0_ n1_ n2_ n3_ n4_ n5_
 have n0_ := am (Kd.R_drew HO_z7000.out)
 have n1_ := am (bkD BKz1.out)
 have n2_ := am (bkD BKz2.out)
 have n3_ := am (bkD BKz6.out)
 have n4_ := am (bkD BKz8.out)
 have n5_ := am (below_drew1 HB.out)
 clear HO_z7000 BKz1 BKz2 BKz6 BKz8 HB; have HO_z7000 := n0_; have BKz1 := n1_; have BKz2 := n2_; have BKz6 := n3_; have BKz8 := n4_; have HB := n5_; clear n0_ n1_ n2_ n3_ n4_ n5_
 obtain ⟨Ao40, co40, eo40⟩ := Kd.R_slice HO_z7000.out
 (first | subst eo40 | (injection eo40 with f1_ f2_ f3_; have f4_ := f1_.symm; have f5_ := f3_.symm; clear f1_ f2_ f3_; subst f4_; subst f5_))
 have pz10 : 0 ≤ (((rd_T24 l0_1 x6_1).f1) : Int) := of_decide_eq_true (by first | (with_reducible assumption) | assumption)
 have qz10 : ((rd_T24 l0_1 x6_1).f1) < (xz7000_1.length : Int) := of_decide_eq_true (by first | (with_reducible assumption) | assumption)
 obtain ⟨adz10, ez10, hxz10_0⟩ := Kd.at_string (Kd.R_reads' HO_z7000.out).2.2 ((rd_T24 l0_1 x6_1).f1) pz10 qz10
 cases ez10
 replace pz10 := eq_true pz10
 replace qz10 := eq_true qz10
 have p29 : 0 ≤ (((rd_T24 l0_1 x6_1).f1) : Int) := of_decide_eq_true (by first | (with_reducible assumption) | assumption)
 have q29 : (((rd_T24 l0_1 x6_1).f1) : Int) < ((xz7000_1.length : Int) : Int) := of_decide_eq_true (by first | (with_reducible assumption) | assumption)
 obtain ⟨go29, co29, eo29, gb29, gl29, cl29, HG29⟩ := Kd.R_form HO_z7000.out (by omega)
 (first | cases eo29 | (injection eo29 with ea_ en_ ec_; (first | subst ea_ | (injection ea_ with ea_; subst ea_)); subst ec_; clear en_))
 have GB29 := Aside0.mk gb29
 have GG29 := am HG29
 clear gb29 gl29 HG29
 (first | simp only [add_plain] at hxz10_0 | skip)
 obtain ⟨hx29_0, hf29_0⟩ := Kd.R_celln (⟨#[]⟩ : ByteArray) HO_z7000.out (((rd_T24 l0_1 x6_1).f1) : Int) p29 q29
 replace p29 := eq_true p29
 replace q29 := eq_true q29
 have HP41 := Kd.R_putn HO_z7000.out (((rd_T24 l0_1 x6_1).f1) : Int) sx28
 rw [← Nyz11.out] at HP41
 have HQ41 := am HP41
 clear HP41
 refine start_ (n := 19) (S := fun w' => w'.cell? ⟨gbz6, 0, none⟩ = some (.slice (some ⟨go29, 0, none⟩) xz7000_1.length co40) ∧ w'.cell? ⟨gbz6, 1, none⟩ = some (.slice none 0 0) ∧ w'.cell? ⟨gbz8, 0, none⟩ = some (.bool ((rd_T24 l0_1 x6_1).f0)) ∧ w'.cell? ⟨gbz8, 1, none⟩ = some (.int .i64 ((rd_T24 l0_1 x6_1).f1)) ∧ w'.cell? ⟨gbz8, 2, none⟩ = some (.string ((rd_T24 l0_1 x6_1).f2)) ∧ w'.cell? ⟨go29, (((rd_T24 l0_1 x6_1).f1)).toNat, none⟩ = some (.string (rdOf ByteArray.empty xz7000_1 ((rd_T24 l0_1 x6_1).f1)))) (ds := [18]) #[false, false, false, false, false, false, false, false, false, false, false, false, false, false, false, false, false, false, false] (by kernel_rfl) rfl rfl ⟨(blk_cell BKz6.out 0).trans rfl, (blk_cell BKz6.out 1).trans rfl, (blk_cell BKz8.out 0).trans rfl, (blk_cell BKz8.out 1).trans rfl, (blk_cell BKz8.out 2).trans rfl, hxz10_0⟩ (fun hHeld => ?_); refine with_tabW columbariumref14_fallen.tab9 columbariumref14_fallen.bits9 (fun HT_ HW_ => ?_)
 generalize w38.drew = w39 at HO_z7000 BKz1 BKz2 BKz6 BKz8 HB GG29 HQ41 hf29_0 hx29_0 hxz10_0 hHeld ⊢
 refine pu_ 0 (some 35) HT_ rfl rfl (.inl ⟨by rfl, by intro w'; go_simp; with_reducible rfl⟩) (by simp only [Act.put, sa_, s0_, s1_, i64_w, i32_w]; rfl) ?_
 refine pu_ 2 (some 37) HT_ rfl rfl (.inl ⟨by rfl, by intro w'; go_simp; with_reducible rfl⟩) (by simp only [Act.put, sa_, s0_, s1_, i64_w, i32_w]; rfl) ?_
 refine pu_ 4 (some 39) HT_ rfl rfl (.inl ⟨by rfl, by intro w'; go_simp; with_reducible rfl⟩) (by simp only [Act.put, sa_, s0_, s1_, i64_w, i32_w]; rfl) ?_
 refine pu_ 6 (some 41) HT_ rfl rfl (.inl ⟨by rfl, by intro w'; go_simp; with_reducible rfl⟩) (by simp only [Act.put, sa_, s0_, s1_, i64_w, i32_w]; rfl) ?_
 refine pu_ 8 (some 43) HT_ rfl rfl (.inl ⟨by rfl, by intro w'; go_simp; with_reducible rfl⟩) (by simp only [Act.put, sa_, s0_, s1_, i64_w, i32_w]; rfl) ?_
 refine pu_ 10 (some 45) HT_ rfl rfl (.inl ⟨by rfl, by intro w'; go_simp; with_reducible rfl⟩) (by simp only [Act.put, sa_, s0_, s1_, i64_w, i32_w]; rfl) ?_
 refine pu_ 14 (some 49) HT_ rfl rfl (.inl ⟨by rfl, by intro w'; go_simp; with_reducible rfl⟩) (by simp only [Act.put, sa_, s0_, s1_, i64_w, i32_w]; rfl) ?_
 refine tk_ 1 (some 36) HT_ HW_ rfl rfl (.inl ⟨by rfl, by rintro w' ⟨s0, s1, s2, s3, s4, s5⟩; go_simp; with_reducible rfl⟩) hHeld (by simp only [Act.put, sa_, s0_, s1_, i64_w, i32_w]; rfl) ?_
 refine tk_ 3 (some 38) HT_ HW_ rfl rfl (.inl ⟨by rfl, by rintro w' ⟨s0, s1, s2, s3, s4, s5⟩; go_simp; with_reducible rfl⟩) hHeld (by simp only [Act.put, sa_, s0_, s1_, i64_w, i32_w]; rfl) ?_
 refine tk_ 5 (some 40) HT_ HW_ rfl rfl (.inl ⟨by rfl, by rintro w' ⟨s0, s1, s2, s3, s4, s5⟩; go_simp; with_reducible rfl⟩) hHeld (by simp only [Act.put, sa_, s0_, s1_, i64_w, i32_w]; rfl) ?_
 refine pu_ 7 (some 42) HT_ rfl rfl (.inl ⟨by rfl, by intro w'; go_simp; with_reducible rfl⟩) (by simp only [Act.put, sa_, s0_, s1_, i64_w, i32_w]; rfl) ?_
 refine tk_ 9 (some 44) HT_ HW_ rfl rfl (.inl ⟨by rfl, by rintro w' ⟨s0, s1, s2, s3, s4, s5⟩; go_simp; with_reducible rfl⟩) hHeld (by simp only [Act.put, sa_, s0_, s1_, i64_w, i32_w]; rfl) ?_
 refine tk_ 11 (some 46) HT_ HW_ rfl rfl (.inl ⟨by rfl, by rintro w' ⟨s0, s1, s2, s3, s4, s5⟩; go_simp; with_reducible rfl⟩) hHeld (by simp only [Act.put, sa_, s0_, s1_, i64_w, i32_w]; rfl) ?_
 refine pu_ 12 (some 47) HT_ rfl rfl (.inl ⟨by rfl, by intro w'; go_simp; with_reducible rfl⟩) (by simp only [Act.put, sa_, s0_, s1_, i64_w, i32_w]; rfl) ?_
 refine tk_ 13 (some 48) HT_ HW_ rfl rfl (.inl ⟨by rfl, by rintro w' ⟨s0, s1, s2, s3, s4, s5⟩; go_simp; with_reducible rfl⟩) hHeld (by simp only [Act.put, sa_, s0_, s1_, i64_w, i32_w]; rfl) ?_
 refine pu_ 15 (some 50) HT_ rfl rfl (.inl ⟨by rfl, by intro w'; go_simp; with_reducible rfl⟩) (by simp only [Act.put, sa_, s0_, s1_, i64_w, i32_w]; rfl) ?_
 refine pu_ 16 (some 51) HT_ rfl rfl (.inl ⟨by rfl, by intro w'; go_simp; with_reducible rfl⟩) (by simp only [Act.put, sa_, s0_, s1_, i64_w, i32_w]; rfl) ?_
 refine pu_ 17 (some 52) HT_ rfl rfl (.inl ⟨by rfl, by intro w'; go_simp; with_reducible rfl⟩) (by simp only [Act.put, sa_, s0_, s1_, i64_w, i32_w]; rfl) ?_
 refine la_ 18 none HT_ rfl rfl (fun K hK => ?_)
 refine skip_ (by rfl) rfl (by go_simp; rfl) ?_
 refine hK.out _ _ ?_
 clear hK K
 refine done_ (done_of HT_.out (by kernel_rfl)) ?_
 try go_wp2
 go_roundg k1
 case measure => have := HK1.out; omega
 case rel => exact ⟨(wrap64 (x6_1 + 1)), (yz11), (.slice (some ⟨go29, 0, none⟩) xz7000_1.length co40), (by first | rfl | (simp; done) | (simp [*]; done)), H', ⟨by have := HK1.out; omega⟩, ⟨by (with_reducible repeat first | apply ra | apply rn | apply rd); exact HQ41.out⟩, ⟨by (with_reducible repeat (first | refine blk_drewN ?_ _ | refine bkD ?_ | refine bkA ?_ _)); refine blk_far ?_ (by have h_ := Kd.R_ne HO_z7000.out BKz1.out (by decide); intro e_; exact h_ (by rw [e_]; rfl)) _; (with_reducible repeat (first | refine blk_drewN ?_ _ | refine bkD ?_ | refine bkA ?_ _)); exact BKz1.out⟩, ⟨by (with_reducible repeat (first | refine blk_drewN ?_ _ | refine bkD ?_ | refine bkA ?_ _)); refine blk_far ?_ (by have h_ := Kd.R_ne HO_z7000.out BKz2.out (by decide); intro e_; exact h_ (by rw [e_]; rfl)) _; (with_reducible repeat (first | refine blk_drewN ?_ _ | refine bkD ?_ | refine bkA ?_ _)); exact BKz2.out⟩, ⟨by (with_reducible repeat (first | refine blk_drewN ?_ _ | refine bkD ?_ | refine bkA ?_ _)); refine blk_far ?_ (by have h_ := Kd.R_ne HO_z7000.out BKz6.out (by decide); intro e_; exact h_ (by rw [e_]; rfl)) _; (with_reducible repeat (first | refine blk_drewN ?_ _ | refine bkD ?_ | refine bkA ?_ _)); exact BKz6.out⟩, ⟨by repeat (first | (with_reducible first | exact HB.out | apply below_alloc | apply pw_below_drewN | apply below_drew1 | refine below_set ?_ GB29.out | refine below_set ?_ GEz1.out | refine below_set ?_ GEz2.out | refine below_set ?_ GEz6.out | refine below_set ?_ GEz8.out) | exact HB.out)⟩⟩
end Go.Proofs.Ytcfinlmocgbnbaa.Pr
end
section
namespace Go.Proofs.Ytcfinlmocgbnbaa.Pr
open Go.Proofs.Ytcfinlmocgbnbaa.Sq Go.RowKit Go.Proofs.YtcfinlmocgbnbaaW.PrintWords Go.Proofs.YtcfinlmocgbnbaaW.PrintLast Go.Proofs.YtcfinlmocgbnbaaW.PrintMore
attribute [local go_sem] max2_int min2_int max_two min_two max_three min_three max_four min_four
set_option linter.unusedVariables false
set_option linter.unusedSimpArgs false
def columbariumref14_Crash.f (k : Nat) (l0_0 : List ByteArray) (l0_1 : List (S24)) (l1 : List Int) : Option (List ByteArray × (List (S24)) × Int) := (columbariumref14_Right.f k l0_0 l0_1).bind fun tz3 => (if tz3 = true then ((columbariumref14_fallen.f k l0_0 l0_1 l1).bind fun btz4 => (some (btz4.1, btz4.2, 0))) else ((columbariumref14_Own.f l0_0 l0_1).bind fun btz10 => (some (btz10.1, btz10.2, 1))))
set_option maxHeartbeats 8000000 in
set_option maxRecDepth 100000 in
theorem columbariumref14_Crash.calls (k : Nat) (A0_0 : Option Addr) (c0_0 : Nat) (l0_0 : List ByteArray) (A0_1 : Option Addr) (c0_1 : Nat) (l0_1 : List (S24)) (A1 : Option Addr) (c1 : Nat) (l1 : List Int) (r1 : List ByteArray) (r2 : List (S24)) (r3 : Int) (w : World) (hr0_0 : Kd.C Kd.string w A0_0 l0_0.length l0_0) (hc0_0 : l0_0.length ≤ c0_0) (hr0_1 : Kd.C k24 w A0_1 l0_1.length l0_1) (hc0_1 : l0_1.length ≤ c0_1) (hr1 : Kd.C (Kd.int .i64) w A1 l1.length l1) (hc1 : l1.length ≤ c1) (h : columbariumref14_Crash.f k l0_0 l0_1 l1 = some (r1, r2, r3)) :
  Calls Try.prog 27 #[.agg #[.slice A0_0 l0_0.length c0_0, .slice A0_1 l0_1.length c0_1], .slice A1 l1.length c1] w fun e w' => ∃ v0_ v1_ : Value, e = .returned (.tuple #[.agg #[v0_, v1_], .int .i64 r3]) ∧ Kd.R Kd.string 9 w' w.heap.size (fun _ => True) v0_ r1 ∧ Kd.R k24 24 w' w.heap.size (fun _ => True) v1_ r2 ∧ Below w.heap.size w w' := by
 have hu30 := Try.underlying30
 have HR0_0 := am hr0_0
 have HC0_0 := am hc0_0
 clear hr0_0 hc0_0
 have HR0_1 := am hr0_1
 have HC0_1 := am hc0_1
 clear hr0_1 hc0_1
 have HR1 := am hr1
 have HC1 := am hc1
 clear hr1 hc1
 have HB := am (Below.refl w.heap.size w)
 have H : ((columbariumref14_Right.f k l0_0 l0_1).bind fun tz3 => (if tz3 = true then ((columbariumref14_fallen.f k l0_0 l0_1 l1).bind fun btz4 => (some (btz4.1, btz4.2, 0))) else ((columbariumref14_Own.f l0_0 l0_1).bind fun btz10 => (some (btz10.1, btz10.2, 1))))) = some (r1, r2, r3) := h
 clear h
 replace H := ob_ H
 obtain ⟨tz3, A30, H⟩ := H
 replace H : (if tz3 = true then ((columbariumref14_fallen.f k l0_0 l0_1 l1).bind fun btz4 => (some (btz4.1, btz4.2, 0))) else ((columbariumref14_Own.f l0_0 l0_1).bind fun btz10 => (some (btz10.1, btz10.2, 1)))) = some (r1, r2, r3) := H
 have A3 := Aside0.mk A30
 clear A30
 by_cases c4 : tz3 = true
 rotate_left
 ·replace c4 := Bool.eq_false_iff.mpr c4
  subst c4
  have H1 : ((columbariumref14_Own.f l0_0 l0_1).bind fun btz10 => (some (btz10.1, btz10.2, 1))) = some (r1, r2, r3) := by rw [if_neg (show ¬ (false = true) by decide)] at H; exact H
  clear H
  have H := H1
  clear H1
  replace H := ob_ H
  obtain ⟨⟨tz10, tz13⟩, A160, H⟩ := H
  replace H : (some (tz10, tz13, 1)) = some (r1, r2, r3) := H
  have A16 := Aside0.mk A160
  clear A160
  simp only [Option.some.injEq, Prod.mk.injEq] at H
  obtain ⟨rfl, rfl, rfl⟩ := H
  go_enter Try.func27, Try.ntmps27
  go_wp2_with (first | ((with_reducible refine gate_dst (N := 2) rfl ?_); refine box_event ?hg (N := 2) ?hd (cs := #[.slice A0_0 l0_0.length c0_0, .slice A0_1 l0_1.length c0_1]) (t := 30) ?hr ?_; (case hd => rfl); (case hg => rfl); (case hr => first | (go_simp; done) | (go_simp; rfl)); intro gbz1 hg w17 hbox hb; have n0_ := am (below_step (pb HB) hb); have n1_ := am (hbox); have n2_ := ge_ hg (pb HB); have n3_ := ge_ hg (pb HB); clear HB; have HB := n0_; have BKz1 := n1_; have GWz1 := n2_; have GEz1 := n3_; clear n0_ n1_ n2_ n3_; clear hb hbox hg) | ((with_reducible refine gate_dst (N := 4) rfl ?_); refine box_event ?hg (N := 4) ?hd (cs := #[.slice none 0 0, .slice none 0 0]) (t := 30) ?hr ?_; (case hd => rfl); (case hg => rfl); (case hr => first | (go_simp; done) | (go_simp; rfl)); intro gbz2 hg w18 hbox hb; have n0_ := am (bkB (pk BKz1) hb); have n1_ := am (below_step (by repeat first | (with_reducible first | exact HB.out | apply ba | apply bn | apply bd | refine bs (by assumption) ?_) | exact HB.out) hb); have n2_ := am (hbox); have n3_ := ge_ hg (by repeat first | (with_reducible first | exact HB.out | apply ba | apply bn | apply bd | refine bs (by assumption) ?_) | exact HB.out); have n4_ := ge_ hg (by repeat first | (with_reducible first | exact HB.out | apply ba | apply bn | apply bd | refine bs (by assumption) ?_) | exact HB.out); have n5_ := nl_ hg BKz1; have n6_ := ng_ hg BKz1; clear BKz1; clear HB; have BKz1 := n0_; have HB := n1_; have BKz2 := n2_; have GWz2 := n3_; have GEz2 := n4_; have NBz1_z2 := n5_; have NBz2_z1 := n6_; clear n0_ n1_ n2_ n3_ n4_ n5_ n6_; clear hb hbox hg; have hnb19 := NBz1_z2.out; have hnc19 := NBz2_z1.out; obtain ⟨hcz20_0, hcz20_1⟩ := bc2 BKz1; obtain ⟨hfz20_0, hfz20_1⟩ := bf2 BKz1) | ((with_reducible refine gate_callee (f := 21) rfl ?_); refine goesL_ (some 7) rfl rfl Try.func21 (by kernel_rfl) rfl #[.agg #[.slice A0_0 l0_0.length c0_0, .slice A0_1 l0_1.length c0_1]] rfl (by (try simp only [List.map_toArray, List.map_cons, List.map_nil]) <;> rfl) ?_; (with_reducible refine (columbariumref14_Right.calls k _ _ l0_0 _ _ l0_1 false _ ?side1 ?side2 ?side3 ?side4 A3.out).mono ?_); (case side1 => repeat (first | exact (Kd.C_below HR0_0.out HB.out) | (with_reducible refine Kd.C_alloc ?_ _) | (with_reducible refine Kd.C_drewN ?_ _) | (with_reducible refine Kd.C_drew ?_))); (case side2 => exact HC0_0.out); (case side3 => repeat (first | exact (Kd.C_below HR0_1.out HB.out) | (with_reducible refine Kd.C_alloc ?_ _) | (with_reducible refine Kd.C_drewN ?_ _) | (with_reducible refine Kd.C_drew ?_))); (case side4 => exact HC0_1.out); rintro e w21 ⟨rfl, hb⟩; refine ⟨_, rfl, ?_⟩; have n0_ := am (bkB (pk BKz1) hb); have n1_ := am (bkB (pk BKz2) hb); have n2_ := am (below_step (by repeat first | (with_reducible first | exact HB.out | apply ba | apply bn | apply bd | refine bs (by assumption) ?_) | exact HB.out) hb); clear BKz1; clear BKz2; clear HB; have BKz1 := n0_; have BKz2 := n1_; have HB := n2_; clear n0_ n1_ n2_; obtain ⟨hcz22_0, hcz22_1⟩ := bc2 BKz1; obtain ⟨hfz22_0, hfz22_1⟩ := bf2 BKz1) | ((with_reducible refine gate_callee (f := 19) rfl ?_); refine goesL_ (some 10) rfl rfl Try.func19 (by kernel_rfl) rfl #[.agg #[.slice A0_0 l0_0.length c0_0, .slice A0_1 l0_1.length c0_1]] rfl (by (try simp only [List.map_toArray, List.map_cons, List.map_nil]) <;> rfl) ?_; (with_reducible refine (columbariumref14_Own.calls _ _ l0_0 _ _ l0_1 tz10 tz13 _ ?side1 ?side2 ?side3 ?side4 A16.out).mono ?_); (case side1 => repeat (first | exact (Kd.C_below HR0_0.out HB.out) | (with_reducible refine Kd.C_alloc ?_ _) | (with_reducible refine Kd.C_drewN ?_ _) | (with_reducible refine Kd.C_drew ?_))); (case side2 => exact HC0_0.out); (case side3 => repeat (first | exact (Kd.C_below HR0_1.out HB.out) | (with_reducible refine Kd.C_alloc ?_ _) | (with_reducible refine Kd.C_drewN ?_ _) | (with_reducible refine Kd.C_drew ?_))); (case side4 => exact HC0_1.out); rintro e w23 ⟨vz11, vz14, rfl, ho0, ho1, hb⟩; refine ⟨_, rfl, ?_⟩; have n0_ := am (Kd.R_lower ho0 (below_size (by repeat first | (with_reducible first | exact HB.out | apply ba | apply bn | apply bd | refine bs (by assumption) ?_) | exact HB.out))); have n1_ := am (Kd.R_lower ho1 (below_size (by repeat first | (with_reducible first | exact HB.out | apply ba | apply bn | apply bd | refine bs (by assumption) ?_) | exact HB.out))); have n2_ := am (bkB (pk BKz1) hb); have n3_ := am (bkB (pk BKz2) hb); have n4_ := am (below_step (by repeat first | (with_reducible first | exact HB.out | apply ba | apply bn | apply bd | refine bs (by assumption) ?_) | exact HB.out) hb); clear BKz1; clear BKz2; clear HB; have HOz12 := n0_; have HOz15 := n1_; have BKz1 := n2_; have BKz2 := n3_; have HB := n4_; clear n0_ n1_ n2_ n3_ n4_; obtain ⟨Ao24, co24, eo24⟩ := Kd.R_slice HOz12.out; subst eo24; obtain ⟨hcz25_0, hcz25_1⟩ := bc2 BKz2; obtain ⟨hfz25_0, hfz25_1⟩ := bf2 BKz2; obtain ⟨Ao26, co26, eo26⟩ := Kd.R_slice HOz15.out; subst eo26))
  refine bodyPost_ret (results_ct rfl _ _ gbz2 30 #[.slice Ao24 tz10.length co24, .slice Ao26 tz13.length co26] (0, 0) _ rfl (by (with_reducible repeat (first | refine blk_drewN ?_ _ | refine bkD ?_ | refine bkA ?_ _)); apply bp2; exact pk BKz2) Try.underlying30 rfl (by kernel_rfl)) rfl ?_
  exact ⟨_, _, by first | rfl | (simp <;> rfl) | (simp [*] <;> rfl), by (with_reducible repeat first | apply ra | apply rn | apply rd); exact Kd.R_mono (rf2 (Kd.R_types HOz12.out BKz2.out (by decide)) (fun _ hk => hk.2)) (fun _ hk => trivial), by (with_reducible repeat first | apply ra | apply rn | apply rd); exact Kd.R_mono (rf2 (Kd.R_types HOz15.out BKz2.out (by decide)) (fun _ hk => hk.2)) (fun _ hk => trivial), by repeat first | (with_reducible first | exact HB.out | apply ba | apply bn | apply bd | refine bs (by assumption) ?_) | exact HB.out⟩
 subst c4
 have H1 : ((columbariumref14_fallen.f k l0_0 l0_1 l1).bind fun btz4 => (some (btz4.1, btz4.2, 0))) = some (r1, r2, r3) := by rw [if_pos rfl] at H; exact H
 clear H
 have H := H1
 clear H1
 replace H := ob_ H
 obtain ⟨⟨tz4, tz7⟩, A50, H⟩ := H
 replace H : (some (tz4, tz7, 0)) = some (r1, r2, r3) := H
 have A5 := Aside0.mk A50
 clear A50
 simp only [Option.some.injEq, Prod.mk.injEq] at H
 obtain ⟨rfl, rfl, rfl⟩ := H
 go_enter Try.func27, Try.ntmps27
 go_wp2_with (first | ((with_reducible refine gate_dst (N := 2) rfl ?_); refine box_event ?hg (N := 2) ?hd (cs := #[.slice A0_0 l0_0.length c0_0, .slice A0_1 l0_1.length c0_1]) (t := 30) ?hr ?_; (case hd => rfl); (case hg => rfl); (case hr => first | (go_simp; done) | (go_simp; rfl)); intro gbz1 hg w6 hbox hb; have n0_ := am (below_step (pb HB) hb); have n1_ := am (hbox); have n2_ := ge_ hg (pb HB); have n3_ := ge_ hg (pb HB); clear HB; have HB := n0_; have BKz1 := n1_; have GWz1 := n2_; have GEz1 := n3_; clear n0_ n1_ n2_ n3_; clear hb hbox hg) | ((with_reducible refine gate_dst (N := 4) rfl ?_); refine box_event ?hg (N := 4) ?hd (cs := #[.slice none 0 0, .slice none 0 0]) (t := 30) ?hr ?_; (case hd => rfl); (case hg => rfl); (case hr => first | (go_simp; done) | (go_simp; rfl)); intro gbz2 hg w7 hbox hb; have n0_ := am (bkB (pk BKz1) hb); have n1_ := am (below_step (by repeat first | (with_reducible first | exact HB.out | apply ba | apply bn | apply bd | refine bs (by assumption) ?_) | exact HB.out) hb); have n2_ := am (hbox); have n3_ := ge_ hg (by repeat first | (with_reducible first | exact HB.out | apply ba | apply bn | apply bd | refine bs (by assumption) ?_) | exact HB.out); have n4_ := ge_ hg (by repeat first | (with_reducible first | exact HB.out | apply ba | apply bn | apply bd | refine bs (by assumption) ?_) | exact HB.out); have n5_ := nl_ hg BKz1; have n6_ := ng_ hg BKz1; clear BKz1; clear HB; have BKz1 := n0_; have HB := n1_; have BKz2 := n2_; have GWz2 := n3_; have GEz2 := n4_; have NBz1_z2 := n5_; have NBz2_z1 := n6_; clear n0_ n1_ n2_ n3_ n4_ n5_ n6_; clear hb hbox hg; have hnb8 := NBz1_z2.out; have hnc8 := NBz2_z1.out; obtain ⟨hcz9_0, hcz9_1⟩ := bc2 BKz1; obtain ⟨hfz9_0, hfz9_1⟩ := bf2 BKz1) | ((with_reducible refine gate_callee (f := 21) rfl ?_); refine goesL_ (some 7) rfl rfl Try.func21 (by kernel_rfl) rfl #[.agg #[.slice A0_0 l0_0.length c0_0, .slice A0_1 l0_1.length c0_1]] rfl (by (try simp only [List.map_toArray, List.map_cons, List.map_nil]) <;> rfl) ?_; (with_reducible refine (columbariumref14_Right.calls k _ _ l0_0 _ _ l0_1 true _ ?side1 ?side2 ?side3 ?side4 A3.out).mono ?_); (case side1 => repeat (first | exact (Kd.C_below HR0_0.out HB.out) | (with_reducible refine Kd.C_alloc ?_ _) | (with_reducible refine Kd.C_drewN ?_ _) | (with_reducible refine Kd.C_drew ?_))); (case side2 => exact HC0_0.out); (case side3 => repeat (first | exact (Kd.C_below HR0_1.out HB.out) | (with_reducible refine Kd.C_alloc ?_ _) | (with_reducible refine Kd.C_drewN ?_ _) | (with_reducible refine Kd.C_drew ?_))); (case side4 => exact HC0_1.out); rintro e w10 ⟨rfl, hb⟩; refine ⟨_, rfl, ?_⟩; have n0_ := am (bkB (pk BKz1) hb); have n1_ := am (bkB (pk BKz2) hb); have n2_ := am (below_step (by repeat first | (with_reducible first | exact HB.out | apply ba | apply bn | apply bd | refine bs (by assumption) ?_) | exact HB.out) hb); clear BKz1; clear BKz2; clear HB; have BKz1 := n0_; have BKz2 := n1_; have HB := n2_; clear n0_ n1_ n2_; obtain ⟨hcz11_0, hcz11_1⟩ := bc2 BKz1; obtain ⟨hfz11_0, hfz11_1⟩ := bf2 BKz1) | ((with_reducible refine gate_callee (f := 42) rfl ?_); refine goesL_ (some 13) rfl rfl Try.func42 (by kernel_rfl) rfl #[.agg #[.slice A0_0 l0_0.length c0_0, .slice A0_1 l0_1.length c0_1], .slice A1 l1.length c1] rfl (by (try simp only [List.map_toArray, List.map_cons, List.map_nil]) <;> rfl) ?_; (with_reducible refine (columbariumref14_fallen.calls k _ _ l0_0 _ _ l0_1 _ _ l1 tz4 tz7 _ ?side1 ?side2 ?side3 ?side4 ?side5 ?side6 A5.out).mono ?_); (case side1 => repeat (first | exact (Kd.C_below HR0_0.out HB.out) | (with_reducible refine Kd.C_alloc ?_ _) | (with_reducible refine Kd.C_drewN ?_ _) | (with_reducible refine Kd.C_drew ?_))); (case side2 => exact HC0_0.out); (case side3 => repeat (first | exact (Kd.C_below HR0_1.out HB.out) | (with_reducible refine Kd.C_alloc ?_ _) | (with_reducible refine Kd.C_drewN ?_ _) | (with_reducible refine Kd.C_drew ?_))); (case side4 => exact HC0_1.out); (case side5 => repeat (first | exact (Kd.C_below HR1.out HB.out) | (with_reducible refine Kd.C_alloc ?_ _) | (with_reducible refine Kd.C_drewN ?_ _) | (with_reducible refine Kd.C_drew ?_))); (case side6 => exact HC1.out); rintro e w12 ⟨vz5, vz8, rfl, ho0, ho1, hb⟩; refine ⟨_, rfl, ?_⟩; have n0_ := am (Kd.R_lower ho0 (below_size (by repeat first | (with_reducible first | exact HB.out | apply ba | apply bn | apply bd | refine bs (by assumption) ?_) | exact HB.out))); have n1_ := am (Kd.R_lower ho1 (below_size (by repeat first | (with_reducible first | exact HB.out | apply ba | apply bn | apply bd | refine bs (by assumption) ?_) | exact HB.out))); have n2_ := am (bkB (pk BKz1) hb); have n3_ := am (bkB (pk BKz2) hb); have n4_ := am (below_step (by repeat first | (with_reducible first | exact HB.out | apply ba | apply bn | apply bd | refine bs (by assumption) ?_) | exact HB.out) hb); clear BKz1; clear BKz2; clear HB; have HOz6 := n0_; have HOz9 := n1_; have BKz1 := n2_; have BKz2 := n3_; have HB := n4_; clear n0_ n1_ n2_ n3_ n4_; obtain ⟨Ao13, co13, eo13⟩ := Kd.R_slice HOz6.out; subst eo13; obtain ⟨hcz14_0, hcz14_1⟩ := bc2 BKz2; obtain ⟨hfz14_0, hfz14_1⟩ := bf2 BKz2; obtain ⟨Ao15, co15, eo15⟩ := Kd.R_slice HOz9.out; subst eo15))
 refine bodyPost_ret (results_ct rfl _ _ gbz2 30 #[.slice Ao13 tz4.length co13, .slice Ao15 tz7.length co15] (0, 0) _ rfl (by (with_reducible repeat (first | refine blk_drewN ?_ _ | refine bkD ?_ | refine bkA ?_ _)); apply bp2; exact pk BKz2) Try.underlying30 rfl (by kernel_rfl)) rfl ?_
 exact ⟨_, _, by first | rfl | (simp <;> rfl) | (simp [*] <;> rfl), by (with_reducible repeat first | apply ra | apply rn | apply rd); exact Kd.R_mono (rf2 (Kd.R_types HOz6.out BKz2.out (by decide)) (fun _ hk => hk.2)) (fun _ hk => trivial), by (with_reducible repeat first | apply ra | apply rn | apply rd); exact Kd.R_mono (rf2 (Kd.R_types HOz9.out BKz2.out (by decide)) (fun _ hk => hk.2)) (fun _ hk => trivial), by repeat first | (with_reducible first | exact HB.out | apply ba | apply bn | apply bd | refine bs (by assumption) ?_) | exact HB.out⟩
end Go.Proofs.Ytcfinlmocgbnbaa.Pr
end
section
namespace Go.Proofs.Ytcfinlmocgbnbaa.Pr
open Go.Proofs.Ytcfinlmocgbnbaa.Sq Go.RowKit Go.Proofs.YtcfinlmocgbnbaaW.PrintWords Go.Proofs.YtcfinlmocgbnbaaW.PrintLast Go.Proofs.YtcfinlmocgbnbaaW.PrintMore
attribute [local go_sem] max2_int min2_int max_two min_two max_three min_three max_four min_four
set_option linter.unusedVariables false
set_option linter.unusedSimpArgs false
def columbariumref14_whole.l0 : Nat → Int → List Int → Int → Option (List Int)
 | 0, _, _, _ => none
 | k + 1, x0, x3, x4 => if x4 < x0 then (if x3.length < 17592186044416 then (columbariumref14_whole.l0 k x0 (x3 ++ [64]) (wrap64 (x4 + 1))) else (none)) else (some x3)
def columbariumref14_whole.f (k : Nat) (a0 : Int) : Option (List Int) := columbariumref14_whole.l0 k a0 ([] : List Int) 0
set_option maxHeartbeats 8000000 in
set_option maxRecDepth 100000 in
theorem columbariumref14_whole.calls (k : Nat) (a0 : Int) (r : List Int) (w : World) (h : columbariumref14_whole.f k a0 = some r) :
  Calls Try.prog 43 #[.int .i64 a0] w fun e w' => ∃ v0_ : Value, e = .returned (v0_) ∧ Kd.R (Kd.int .i64) 3 w' w.heap.size (fun _ => True) v0_ r ∧ Below w.heap.size w w' := by
 have HB := am (Below.refl w.heap.size w)
 have H : (columbariumref14_whole.l0 k a0 ([] : List Int) 0) = some r := h
 clear h
 have H' := am H
 clear H
 go_enter Try.func43, Try.ntmps43
 go_wp2
 go_loopg [3, 4] k (fun kq v3 v4 w' => ∃ (x3_1 : List Int) (x4_1 : Int), v4 = .int .i64 x4_1 ∧ Aside0 (columbariumref14_whole.l0 kq a0 x3_1 x4_1 = some r) ∧ Aside0 (kq ≤ k) ∧ Aside0 (Kd.R (Kd.int .i64) 3 w' w.heap.size (fun _ => True) v3 x3_1) ∧ Aside0 (Below w.heap.size w w'))
 case atStart => exact ⟨(([] : List Int)), (0), (by first | rfl | (simp; done) | (simp [*]; done)), H', ⟨Nat.le_refl _⟩, ⟨by exact Kd.R_nil _ _ _ _ _⟩, ⟨by repeat first | (with_reducible first | exact HB.out | apply ba | apply bn | apply bd | refine bs (by assumption) ?_) | exact HB.out⟩⟩
 clear H'
 obtain ⟨x3_1, x4_1, rfl, HA, HK1, HO_3, HB⟩ := hrel
 cases gk with
 | zero => exact absurd HA.out (by simp [columbariumref14_whole.l0])
 | succ k1 => ?_
 have H := HA.out
 clear HA
 simp only [columbariumref14_whole.l0] at H
 by_cases c2 : x4_1 < a0
 rotate_left
 ·rw [if_neg c2] at H
  have c2b0 : decide (x4_1 < a0) = false := decide_eq_false c2
  clear c2
  obtain rfl := Option.some.inj H
  go_wp2
  go_ret
  exact ⟨_, by first | rfl | (simp <;> rfl) | (simp [*] <;> rfl), by (with_reducible repeat first | apply ra | apply rn | apply rd); exact HO_3.out, by repeat first | (with_reducible first | exact HB.out | apply ba | apply bn | apply bd | refine bs (by assumption) ?_) | exact HB.out⟩
 rw [if_pos c2] at H
 have c2b0 : decide (x4_1 < a0) = true := decide_eq_true c2
 clear c2
 by_cases c3 : x3_1.length < 17592186044416
 rotate_left
 ·rw [if_neg c3] at H
  exact absurd H (by simp)
 rw [if_pos c3] at H
 have LMc3 := Aside0.mk c3
 clear c3
 obtain ⟨yz1, hyz1⟩ : ∃ y_ : List Int, y_ = (x3_1 ++ [64]) := ⟨_, rfl⟩
 replace H : (columbariumref14_whole.l0 k1 a0 yz1 (wrap64 (x4_1 + 1))) = some r := by first | (rw [hyz1]; with_reducible exact H) | (have H2_ := (Option.bind_some _ _).symm.trans H; rw [hyz1]; with_reducible exact H2_) | (have H2_ := (Option.bind_some _ _).symm.trans H; with_reducible exact H2_) | with_reducible exact H | (rw [hyz1]; exact H) | exact H
 have Nyz1 := am hyz1
 clear hyz1
 have H' := am H
 clear H
 go_wp2_with (first | ((with_reducible refine gate_builtin (b := .append) (xs := #[.tmp 10, .tmp 11]) rfl ?_); at_builtin; refine Kd.R_append (Kd.int .i64) (w0 := w) w.heap.size rfl (.tmp 10) (.tmp 11) 25 3 (.int .i64 0) 8 rfl Try.underlying25 info3 rfl (by decide) (by omega) u3 x3_1 64 [.int .i64 64] (fun _ => True) (fun _ => False) rfl rfl ?aP (fun _ hk => hk.elim) ?aF ?aO ?aB ?aS ?aL ?_; (case aP => exact rfl); (case aB => exact (pb HB)); (case aF => exact (fun _ _ => trivial)); (case aO => exact (pr HO_3)); (case aS => exact (below_size (pb HB))); (case aL => have := LMc3.out; omega); intro vz2 w4 ho hb hg hat; rw [← Nyz1.out] at ho; have n0_ := am (hb); have n1_ := am (ho); clear HB; clear HO_3; have HB := n0_; have HOz3 := n1_; clear n0_ n1_; clear ho hb hg hat))
 go_roundg k1
 case measure => have := HK1.out; omega
 case rel => exact ⟨(yz1), (wrap64 (x4_1 + 1)), (by first | rfl | (simp; done) | (simp [*]; done)), H', ⟨by have := HK1.out; omega⟩, ⟨by (with_reducible repeat first | apply ra | apply rn | apply rd); exact HOz3.out⟩, ⟨by repeat first | (with_reducible first | exact HB.out | apply ba | apply bn | apply bd | refine bs (by assumption) ?_) | exact HB.out⟩⟩
end Go.Proofs.Ytcfinlmocgbnbaa.Pr
end
section
namespace Go.Proofs.Ytcfinlmocgbnbaa.Pr
open Go.Proofs.Ytcfinlmocgbnbaa.Sq Go.RowKit Go.Proofs.YtcfinlmocgbnbaaW.PrintWords Go.Proofs.YtcfinlmocgbnbaaW.PrintLast Go.Proofs.YtcfinlmocgbnbaaW.PrintMore
attribute [local go_sem] max2_int min2_int max_two min_two max_three min_three max_four min_four
set_option linter.unusedVariables false
set_option linter.unusedSimpArgs false
mutual
def columbariumref14_Do.l0 : Nat → List (S24) → Int → List ByteArray → List (S24) → Option (List ByteArray × (List (S24)) × Int)
 | 0, _, _, _, _ => none
 | k + 1, x1, x6, xz2000, xz2001 => if x6 < (x1.length : Int) then (if 0 ≤ x6 then ((columbariumref14_may.f ((rd_T24 x1 x6).f0) ((rd_T24 x1 x6).f1) ((rd_T24 x1 x6).f2) (xz2000.length : Int)).bind fun tz11 => (if tz11 = true then (columbariumref14_Do.l0 k x1 (wrap64 (x6 + 1)) xz2000 xz2001) else ((columbariumref14_Own.f xz2000 xz2001).bind fun btz12 => (some (btz12.1, btz12.2, 1))))) else (none)) else ((columbariumref14_Own.f xz2000 xz2001).bind fun btz18 => (columbariumref14_Do.l1 k x1 0 xz2000 xz2001 btz18.1 btz18.2))
def columbariumref14_Do.l1 : Nat → List (S24) → Int → List ByteArray → List (S24) → List ByteArray → List (S24) → Option (List ByteArray × (List (S24)) × Int)
 | 0, _, _, _, _, _, _ => none
 | k + 1, x1, x8, xz2000, xz2001, xz25000, xz25001 => if x8 < (x1.length : Int) then (if 0 ≤ x8 then (if (rd_T24 x1 x8).f0 = true then ((columbariumref14_whole.f k (xz25001.length : Int)).bind fun tz26 => ((columbariumref14_fallen.f k xz25000 xz25001 tz26).bind fun btz29 => (columbariumref14_Do.l1 k x1 (wrap64 (x8 + 1)) xz2000 xz2001 btz29.1 btz29.2))) else (if (xz25001.length : Int) ≥ 3000 then ((columbariumref14_Own.f xz2000 xz2001).bind fun btz35 => (some (btz35.1, btz35.2, 2))) else (if xz25001.length < 4398046511104 then (columbariumref14_Do.l1 k x1 (wrap64 (x8 + 1)) xz2000 xz2001 xz25000 (xz25001 ++ [(⟨(rd_T24 x1 x8).f0, (rd_T24 x1 x8).f1, (rd_T24 x1 x8).f2⟩ : S24)])) else (none)))) else (none)) else (some (xz25000, xz25001, 0))
end
def columbariumref14_Do.f (k : Nat) (l0_0 : List ByteArray) (l0_1 : List (S24)) (l1 : List (S24)) : Option (List ByteArray × (List (S24)) × Int) := (columbariumref14_Right.f k l0_0 l0_1).bind fun tz3 => (if tz3 = true then (columbariumref14_Do.l0 k l1 0 l0_0 l0_1) else ((columbariumref14_Own.f l0_0 l0_1).bind fun btz4 => (some (btz4.1, btz4.2, 1))))
def columbariumref14_Do.T6 : Bool × List (List Nat × List Nat) := (true, [([], []), ([], []), ([0, 1], [0, 1]), ([2], [2]), ([], []), ([4], [4]), ([5], [5]), ([3, 6], [3, 6]), ([7], [7])])
def columbariumref14_Do.B6 : List Nat := [0, 0, 3, 7, 0, 16, 48, 127, 255]
theorem columbariumref14_Do.tab6 : rtab .any (opsOf Try.f17 6) = columbariumref14_Do.T6 := by kernel_rfl
theorem columbariumref14_Do.bits6 : waitsOk columbariumref14_Do.T6.2 columbariumref14_Do.B6 = true := by kernel_rfl
def columbariumref14_Do.T16 : Bool × List (List Nat × List Nat) := (true, [([], []), ([0], [0]), ([], []), ([], []), ([2, 3], [2, 3]), ([4], [4]), ([5], [5]), ([1, 6], [1, 6]), ([0, 1, 2, 3, 4, 5, 6, 7], []), ([8, 7, 7, 0, 1, 2, 3, 4, 5, 6, 7], [7, 8])])
def columbariumref14_Do.B16 : List Nat := [0, 1, 0, 0, 12, 28, 60, 127, 255, 511]
theorem columbariumref14_Do.tab16 : rtab .any (opsOf Try.f17 16) = columbariumref14_Do.T16 := by kernel_rfl
theorem columbariumref14_Do.bits16 : waitsOk columbariumref14_Do.T16.2 columbariumref14_Do.B16 = true := by kernel_rfl
set_option maxHeartbeats 8000000 in
set_option maxRecDepth 100000 in
theorem columbariumref14_Do.calls (k : Nat) (A0_0 : Option Addr) (c0_0 : Nat) (l0_0 : List ByteArray) (A0_1 : Option Addr) (c0_1 : Nat) (l0_1 : List (S24)) (A1 : Option Addr) (c1 : Nat) (l1 : List (S24)) (r1 : List ByteArray) (r2 : List (S24)) (r3 : Int) (w : World) (hr0_0 : Kd.C Kd.string w A0_0 l0_0.length l0_0) (hc0_0 : l0_0.length ≤ c0_0) (hr0_1 : Kd.C k24 w A0_1 l0_1.length l0_1) (hc0_1 : l0_1.length ≤ c0_1) (hr1 : Kd.C k24 w A1 l1.length l1) (hc1 : l1.length ≤ c1) (h : columbariumref14_Do.f k l0_0 l0_1 l1 = some (r1, r2, r3)) :
  Calls Try.prog 17 #[.agg #[.slice A0_0 l0_0.length c0_0, .slice A0_1 l0_1.length c0_1], .slice A1 l1.length c1] w fun e w' => ∃ v0_ v1_ : Value, e = .returned (.tuple #[.agg #[v0_, v1_], .int .i64 r3]) ∧ Kd.R Kd.string 9 w' w.heap.size (fun _ => True) v0_ r1 ∧ Kd.R k24 24 w' w.heap.size (fun _ => True) v1_ r2 ∧ Below w.heap.size w w' := by
 have hu30 := Try.underlying30
 have hu24 := Try.underlying24
 have HR0_0 := am hr0_0
 have HC0_0 := am hc0_0
 clear hr0_0 hc0_0
 have HR0_1 := am hr0_1
 have HC0_1 := am hc0_1
 clear hr0_1 hc0_1
 have HR1 := am hr1
 have HC1 := am hc1
 clear hr1 hc1
 have HB := am (Below.refl w.heap.size w)
 have H : ((columbariumref14_Right.f k l0_0 l0_1).bind fun tz3 => (if tz3 = true then (columbariumref14_Do.l0 k l1 0 l0_0 l0_1) else ((columbariumref14_Own.f l0_0 l0_1).bind fun btz4 => (some (btz4.1, btz4.2, 1))))) = some (r1, r2, r3) := h
 clear h
 replace H := ob_ H
 obtain ⟨tz3, A30, H⟩ := H
 replace H : (if tz3 = true then (columbariumref14_Do.l0 k l1 0 l0_0 l0_1) else ((columbariumref14_Own.f l0_0 l0_1).bind fun btz4 => (some (btz4.1, btz4.2, 1)))) = some (r1, r2, r3) := H
 have A3 := Aside0.mk A30
 clear A30
 by_cases c4 : tz3 = true
 rotate_left
 ·replace c4 := Bool.eq_false_iff.mpr c4
  subst c4
  have H1 : ((columbariumref14_Own.f l0_0 l0_1).bind fun btz4 => (some (btz4.1, btz4.2, 1))) = some (r1, r2, r3) := by rw [if_neg (show ¬ (false = true) by decide)] at H; exact H
  clear H
  have H := H1
  clear H1
  replace H := ob_ H
  obtain ⟨⟨tz4, tz7⟩, A790, H⟩ := H
  replace H : (some (tz4, tz7, 1)) = some (r1, r2, r3) := H
  have A79 := Aside0.mk A790
  clear A790
  simp only [Option.some.injEq, Prod.mk.injEq] at H
  obtain ⟨rfl, rfl, rfl⟩ := H
  go_enter Try.func17, Try.ntmps17
  go_wp2_with (first | ((with_reducible refine gate_dst (N := 2) rfl ?_); refine box_event ?hg (N := 2) ?hd (cs := #[.slice A0_0 l0_0.length c0_0, .slice A0_1 l0_1.length c0_1]) (t := 30) ?hr ?_; (case hd => rfl); (case hg => rfl); (case hr => first | (go_simp; done) | (go_simp; rfl)); intro gbz1 hg w80 hbox hb; have n0_ := am (below_step (pb HB) hb); have n1_ := am (hbox); have n2_ := ge_ hg (pb HB); have n3_ := ge_ hg (pb HB); clear HB; have HB := n0_; have BKz1 := n1_; have GWz1 := n2_; have GEz1 := n3_; clear n0_ n1_ n2_ n3_; clear hb hbox hg) | ((with_reducible refine gate_dst (N := 4) rfl ?_); refine box_event ?hg (N := 4) ?hd (cs := #[.slice none 0 0, .slice none 0 0]) (t := 30) ?hr ?_; (case hd => rfl); (case hg => rfl); (case hr => first | (go_simp; done) | (go_simp; rfl)); intro gbz2 hg w81 hbox hb; have n0_ := am (bkB (pk BKz1) hb); have n1_ := am (below_step (by repeat first | (with_reducible first | exact HB.out | apply ba | apply bn | apply bd | refine bs (by assumption) ?_) | exact HB.out) hb); have n2_ := am (hbox); have n3_ := ge_ hg (by repeat first | (with_reducible first | exact HB.out | apply ba | apply bn | apply bd | refine bs (by assumption) ?_) | exact HB.out); have n4_ := ge_ hg (by repeat first | (with_reducible first | exact HB.out | apply ba | apply bn | apply bd | refine bs (by assumption) ?_) | exact HB.out); have n5_ := nl_ hg BKz1; have n6_ := ng_ hg BKz1; clear BKz1; clear HB; have BKz1 := n0_; have HB := n1_; have BKz2 := n2_; have GWz2 := n3_; have GEz2 := n4_; have NBz1_z2 := n5_; have NBz2_z1 := n6_; clear n0_ n1_ n2_ n3_ n4_ n5_ n6_; clear hb hbox hg; have hnb82 := NBz1_z2.out; have hnc82 := NBz2_z1.out; obtain ⟨hcz83_0, hcz83_1⟩ := bc2 BKz1; obtain ⟨hfz83_0, hfz83_1⟩ := bf2 BKz1) | ((with_reducible refine gate_callee (f := 21) rfl ?_); refine goesL_ (some 10) rfl rfl Try.func21 (by kernel_rfl) rfl #[.agg #[.slice A0_0 l0_0.length c0_0, .slice A0_1 l0_1.length c0_1]] rfl (by (try simp only [List.map_toArray, List.map_cons, List.map_nil]) <;> rfl) ?_; (with_reducible refine (columbariumref14_Right.calls k _ _ l0_0 _ _ l0_1 false _ ?side1 ?side2 ?side3 ?side4 A3.out).mono ?_); (case side1 => repeat (first | exact (Kd.C_below HR0_0.out HB.out) | (with_reducible refine Kd.C_alloc ?_ _) | (with_reducible refine Kd.C_drewN ?_ _) | (with_reducible refine Kd.C_drew ?_))); (case side2 => exact HC0_0.out); (case side3 => repeat (first | exact (Kd.C_below HR0_1.out HB.out) | (with_reducible refine Kd.C_alloc ?_ _) | (with_reducible refine Kd.C_drewN ?_ _) | (with_reducible refine Kd.C_drew ?_))); (case side4 => exact HC0_1.out); rintro e w84 ⟨rfl, hb⟩; refine ⟨_, rfl, ?_⟩; have n0_ := am (bkB (pk BKz1) hb); have n1_ := am (bkB (pk BKz2) hb); have n2_ := am (below_step (by repeat first | (with_reducible first | exact HB.out | apply ba | apply bn | apply bd | refine bs (by assumption) ?_) | exact HB.out) hb); clear BKz1; clear BKz2; clear HB; have BKz1 := n0_; have BKz2 := n1_; have HB := n2_; clear n0_ n1_ n2_; obtain ⟨hcz85_0, hcz85_1⟩ := bc2 BKz1; obtain ⟨hfz85_0, hfz85_1⟩ := bf2 BKz1) | ((with_reducible refine gate_callee (f := 19) rfl ?_); refine goesL_ (some 13) rfl rfl Try.func19 (by kernel_rfl) rfl #[.agg #[.slice A0_0 l0_0.length c0_0, .slice A0_1 l0_1.length c0_1]] rfl (by (try simp only [List.map_toArray, List.map_cons, List.map_nil]) <;> rfl) ?_; (with_reducible refine (columbariumref14_Own.calls _ _ l0_0 _ _ l0_1 tz4 tz7 _ ?side1 ?side2 ?side3 ?side4 A79.out).mono ?_); (case side1 => repeat (first | exact (Kd.C_below HR0_0.out HB.out) | (with_reducible refine Kd.C_alloc ?_ _) | (with_reducible refine Kd.C_drewN ?_ _) | (with_reducible refine Kd.C_drew ?_))); (case side2 => exact HC0_0.out); (case side3 => repeat (first | exact (Kd.C_below HR0_1.out HB.out) | (with_reducible refine Kd.C_alloc ?_ _) | (with_reducible refine Kd.C_drewN ?_ _) | (with_reducible refine Kd.C_drew ?_))); (case side4 => exact HC0_1.out); rintro e w86 ⟨vz5, vz8, rfl, ho0, ho1, hb⟩; refine ⟨_, rfl, ?_⟩; have n0_ := am (Kd.R_lower ho0 (below_size (by repeat first | (with_reducible first | exact HB.out | apply ba | apply bn | apply bd | refine bs (by assumption) ?_) | exact HB.out))); have n1_ := am (Kd.R_lower ho1 (below_size (by repeat first | (with_reducible first | exact HB.out | apply ba | apply bn | apply bd | refine bs (by assumption) ?_) | exact HB.out))); have n2_ := am (bkB (pk BKz1) hb); have n3_ := am (bkB (pk BKz2) hb); have n4_ := am (below_step (by repeat first | (with_reducible first | exact HB.out | apply ba | apply bn | apply bd | refine bs (by assumption) ?_) | exact HB.out) hb); clear BKz1; clear BKz2; clear HB; have HOz6 := n0_; have HOz9 := n1_; have BKz1 := n2_; have BKz2 := n3_; have HB := n4_; clear n0_ n1_ n2_ n3_ n4_; obtain ⟨Ao87, co87, eo87⟩ := Kd.R_slice HOz6.out; subst eo87; obtain ⟨hcz88_0, hcz88_1⟩ := bc2 BKz2; obtain ⟨hfz88_0, hfz88_1⟩ := bf2 BKz2; obtain ⟨Ao89, co89, eo89⟩ := Kd.R_slice HOz9.out; subst eo89))
  refine bodyPost_ret (results_ct rfl _ _ gbz2 30 #[.slice Ao87 tz4.length co87, .slice Ao89 tz7.length co89] (0, 0) _ rfl (by (with_reducible repeat (first | refine blk_drewN ?_ _ | refine bkD ?_ | refine bkA ?_ _)); apply bp2; exact pk BKz2) Try.underlying30 rfl (by kernel_rfl)) rfl ?_
  exact ⟨_, _, by first | rfl | (simp <;> rfl) | (simp [*] <;> rfl), by (with_reducible repeat first | apply ra | apply rn | apply rd); exact Kd.R_mono (rf2 (Kd.R_types HOz6.out BKz2.out (by decide)) (fun _ hk => hk.2)) (fun _ hk => trivial), by (with_reducible repeat first | apply ra | apply rn | apply rd); exact Kd.R_mono (rf2 (Kd.R_types HOz9.out BKz2.out (by decide)) (fun _ hk => hk.2)) (fun _ hk => trivial), by repeat first | (with_reducible first | exact HB.out | apply ba | apply bn | apply bd | refine bs (by assumption) ?_) | exact HB.out⟩
 subst c4
 have H1 : (columbariumref14_Do.l0 k l1 0 l0_0 l0_1) = some (r1, r2, r3) := by rw [if_pos rfl] at H; exact H
 clear H
 have H := H1
 clear H1
 have H' := am H
 clear H
 go_enter Try.func17, Try.ntmps17
 go_wp2_with (first | ((with_reducible refine gate_dst (N := 2) rfl ?_); refine box_event ?hg (N := 2) ?hd (cs := #[.slice A0_0 l0_0.length c0_0, .slice A0_1 l0_1.length c0_1]) (t := 30) ?hr ?_; (case hd => rfl); (case hg => rfl); (case hr => first | (go_simp; done) | (go_simp; rfl)); intro gbz1 hg w5 hbox hb; have n0_ := am (below_step (pb HB) hb); have n1_ := am (hbox); have n2_ := ge_ hg (pb HB); have n3_ := ge_ hg (pb HB); clear HB; have HB := n0_; have BKz1 := n1_; have GWz1 := n2_; have GEz1 := n3_; clear n0_ n1_ n2_ n3_; clear hb hbox hg) | ((with_reducible refine gate_dst (N := 4) rfl ?_); refine box_event ?hg (N := 4) ?hd (cs := #[.slice none 0 0, .slice none 0 0]) (t := 30) ?hr ?_; (case hd => rfl); (case hg => rfl); (case hr => first | (go_simp; done) | (go_simp; rfl)); intro gbz2 hg w6 hbox hb; have n0_ := am (bkB (pk BKz1) hb); have n1_ := am (below_step (by repeat first | (with_reducible first | exact HB.out | apply ba | apply bn | apply bd | refine bs (by assumption) ?_) | exact HB.out) hb); have n2_ := am (hbox); have n3_ := ge_ hg (by repeat first | (with_reducible first | exact HB.out | apply ba | apply bn | apply bd | refine bs (by assumption) ?_) | exact HB.out); have n4_ := ge_ hg (by repeat first | (with_reducible first | exact HB.out | apply ba | apply bn | apply bd | refine bs (by assumption) ?_) | exact HB.out); have n5_ := nl_ hg BKz1; have n6_ := ng_ hg BKz1; clear BKz1; clear HB; have BKz1 := n0_; have HB := n1_; have BKz2 := n2_; have GWz2 := n3_; have GEz2 := n4_; have NBz1_z2 := n5_; have NBz2_z1 := n6_; clear n0_ n1_ n2_ n3_ n4_ n5_ n6_; clear hb hbox hg; have hnb7 := NBz1_z2.out; have hnc7 := NBz2_z1.out; obtain ⟨hcz8_0, hcz8_1⟩ := bc2 BKz1; obtain ⟨hfz8_0, hfz8_1⟩ := bf2 BKz1) | ((with_reducible refine gate_callee (f := 21) rfl ?_); refine goesL_ (some 10) rfl rfl Try.func21 (by kernel_rfl) rfl #[.agg #[.slice A0_0 l0_0.length c0_0, .slice A0_1 l0_1.length c0_1]] rfl (by (try simp only [List.map_toArray, List.map_cons, List.map_nil]) <;> rfl) ?_; (with_reducible refine (columbariumref14_Right.calls k _ _ l0_0 _ _ l0_1 true _ ?side1 ?side2 ?side3 ?side4 A3.out).mono ?_); (case side1 => repeat (first | exact (Kd.C_below HR0_0.out HB.out) | (with_reducible refine Kd.C_alloc ?_ _) | (with_reducible refine Kd.C_drewN ?_ _) | (with_reducible refine Kd.C_drew ?_))); (case side2 => exact HC0_0.out); (case side3 => repeat (first | exact (Kd.C_below HR0_1.out HB.out) | (with_reducible refine Kd.C_alloc ?_ _) | (with_reducible refine Kd.C_drewN ?_ _) | (with_reducible refine Kd.C_drew ?_))); (case side4 => exact HC0_1.out); rintro e w9 ⟨rfl, hb⟩; refine ⟨_, rfl, ?_⟩; have n0_ := am (bkB (pk BKz1) hb); have n1_ := am (bkB (pk BKz2) hb); have n2_ := am (below_step (by repeat first | (with_reducible first | exact HB.out | apply ba | apply bn | apply bd | refine bs (by assumption) ?_) | exact HB.out) hb); clear BKz1; clear BKz2; clear HB; have BKz1 := n0_; have BKz2 := n1_; have HB := n2_; clear n0_ n1_ n2_; (try clear hi)))
 go_loopg [6] k (fun kq v6 w' => ∃ (x6_1 : Int), v6 = .int .i64 x6_1 ∧ Aside0 (columbariumref14_Do.l0 kq l1 x6_1 l0_0 l0_1 = some (r1, r2, r3)) ∧ Aside0 (kq ≤ k) ∧ Aside0 (w'.heap[gbz1]? = some (.cells #[(.slice A0_0 l0_0.length c0_0), (.slice A0_1 l0_1.length c0_1)] 30 (0, 0))) ∧ Aside0 (w'.heap[gbz2]? = some (.cells #[(.slice none 0 0), (.slice none 0 0)] 30 (0, 0))) ∧ Aside0 (Below w.heap.size w w'))
 case atStart => exact ⟨(0), (by first | rfl | (simp; done) | (simp [*]; done)), H', ⟨Nat.le_refl _⟩, ⟨by (with_reducible repeat (first | refine blk_drewN ?_ _ | refine bkD ?_ | refine bkA ?_ _)); exact BKz1.out⟩, ⟨by (with_reducible repeat (first | refine blk_drewN ?_ _ | refine bkD ?_ | refine bkA ?_ _)); exact BKz2.out⟩, ⟨by repeat first | (with_reducible first | exact HB.out | apply ba | apply bn | apply bd | refine bs (by assumption) ?_) | exact HB.out⟩⟩
 clear H'
 try clear c1
 try clear c2
 try clear p2
 try clear c4
 try clear c7
 try clear hcz8_0
 try clear hcz8_1
 try clear hfz8_0
 try clear hfz8_1
 obtain ⟨x6_1, rfl, HA, HK1, BKz1, BKz2, HB⟩ := hrel
 cases gk with
 | zero => exact absurd HA.out (by simp [columbariumref14_Do.l0])
 | succ k1 => ?_
 have H := HA.out
 clear HA
 simp only [columbariumref14_Do.l0] at H
 by_cases c10 : x6_1 < (l1.length : Int)
 ·rw [if_pos c10] at H
  have c10b0 : decide (x6_1 < (l1.length : Int)) = true := decide_eq_true c10
  clear c10
  by_cases c11 : 0 ≤ x6_1
  rotate_left
  ·rw [if_neg c11] at H
   exact absurd H (by simp)
  rw [if_pos c11] at H
  have c11b0 : decide (0 ≤ x6_1) = true := decide_eq_true c11
  clear c11
  replace H := ob_ H
  obtain ⟨tz11, A120, H⟩ := H
  replace H : (if tz11 = true then (columbariumref14_Do.l0 k1 l1 (wrap64 (x6_1 + 1)) l0_0 l0_1) else ((columbariumref14_Own.f l0_0 l0_1).bind fun btz12 => (some (btz12.1, btz12.2, 1)))) = some (r1, r2, r3) := H
  have A12 := Aside0.mk A120
  clear A120
  by_cases c13 : tz11 = true
  ·subst c13
   have H1 : (columbariumref14_Do.l0 k1 l1 (wrap64 (x6_1 + 1)) l0_0 l0_1) = some (r1, r2, r3) := by rw [if_pos rfl] at H; exact H
   clear H
   have H := H1
   clear H1
   have H' := am H
   clear H
   try go_wp2
   have n0_ := am (bkD BKz1.out)
   have n1_ := am (bkD BKz2.out)
   have n2_ := am (below_drew1 HB.out)
   clear BKz1 BKz2 HB; have BKz1 := n0_; have BKz2 := n1_; have HB := n2_; clear n0_ n1_ n2_
   have pz10 : 0 ≤ (x6_1 : Int) := of_decide_eq_true (by first | (with_reducible assumption) | assumption)
   have qz10 : x6_1 < (l1.length : Int) := of_decide_eq_true (by first | (with_reducible assumption) | assumption)
   obtain ⟨adz10, ez10, hxz10_0, hxz10_1, hxz10_2⟩ := at_T24 HR1.out x6_1 pz10 qz10
   have hwz10_2 := hxz10_2
   have hwz10_1 := hxz10_1
   have hwz10_0 := hxz10_0
   cases ez10
   replace hxz10_0 := (HB.out.cell (World.block_lt_of_cell? w _ hxz10_0)).trans hxz10_0
   replace hxz10_1 := (HB.out.cell (World.block_lt_of_cell? w _ hxz10_1)).trans hxz10_1
   replace hxz10_2 := (HB.out.cell (World.block_lt_of_cell? w _ hxz10_2)).trans hxz10_2
   replace pz10 := eq_true pz10
   replace qz10 := eq_true qz10
   refine start_ (n := 9) (S := fun w' => w'.cell? ⟨gbz1, 0, none⟩ = some (.slice A0_0 l0_0.length c0_0) ∧ w'.cell? ⟨gbz1, 1, none⟩ = some (.slice A0_1 l0_1.length c0_1) ∧ w'.cell? (adz10.add ((x6_1).toNat * 3)) = some (.bool ((rd_T24 l1 x6_1).f0)) ∧ w'.cell? ⟨(adz10.add ((x6_1).toNat * 3)).block, (adz10.add ((x6_1).toNat * 3)).off + 1, none⟩ = some (.int .i64 ((rd_T24 l1 x6_1).f1)) ∧ w'.cell? ⟨(adz10.add ((x6_1).toNat * 3)).block, (adz10.add ((x6_1).toNat * 3)).off + 2, none⟩ = some (.string ((rd_T24 l1 x6_1).f2))) (ds := []) #[false, false, false, false, false, false, false, false, false] (by kernel_rfl) rfl rfl ⟨(blk_cell BKz1.out 0).trans rfl, (blk_cell BKz1.out 1).trans rfl, ((HB.out.cell (World.block_lt_of_cell? w _ hwz10_0)).trans hwz10_0), ((HB.out.cell (World.block_lt_of_cell? w _ hwz10_1)).trans hwz10_1), ((HB.out.cell (World.block_lt_of_cell? w _ hwz10_2)).trans hwz10_2)⟩ (fun hHeld => ?_); refine with_tabW columbariumref14_Do.tab6 columbariumref14_Do.bits6 (fun HT_ HW_ => ?_)
   generalize wr.drew = w14 at BKz1 BKz2 HB hxz10_0 hxz10_1 hxz10_2 hHeld ⊢
   refine pu_ 0 (some 20) HT_ rfl rfl (.inl ⟨by rfl, by intro w'; go_simp; with_reducible rfl⟩) (by simp only [Act.put, sa_, s0_, s1_, i64_w, i32_w]; rfl) ?_
   refine pu_ 1 (some 21) HT_ rfl rfl (.inl ⟨by rfl, by intro w'; go_simp; with_reducible rfl⟩) (by simp only [Act.put, sa_, s0_, s1_, i64_w, i32_w]; rfl) ?_
   refine pu_ 2 (some 22) HT_ rfl rfl (.inl ⟨by rfl, by intro w'; go_simp; with_reducible rfl⟩) (by simp only [Act.put, sa_, s0_, s1_, i64_w, i32_w]; rfl) ?_
   refine pu_ 4 (some 24) HT_ rfl rfl (.inl ⟨by rfl, by intro w'; go_simp; with_reducible rfl⟩) (by simp only [Act.put, sa_, s0_, s1_, i64_w, i32_w]; rfl) ?_
   refine tk_ 3 (some 23) HT_ HW_ rfl rfl (.inl ⟨by rfl, by rintro w' ⟨s0, s1, s2, s3, s4⟩; go_simp; with_reducible rfl⟩) hHeld (by simp only [Act.put, sa_, s0_, s1_, i64_w, i32_w]; rfl) ?_
   refine tk_ 5 (some 25) HT_ HW_ rfl rfl (.inl ⟨by rfl, by rintro w' ⟨s0, s1, s2, s3, s4⟩; go_simp; with_reducible rfl⟩) hHeld (by simp only [Act.put, sa_, s0_, s1_, i64_w, i32_w]; rfl) ?_
   refine pu_ 6 (some 26) HT_ rfl rfl (.inl ⟨by rfl, by intro w'; go_simp; with_reducible rfl⟩) (by simp only [Act.put, sa_, s0_, s1_, i64_w, i32_w]; rfl) ?_
   refine on_ 7 (some 27) HT_ rfl rfl (fun K hK => ?_)
   refine goes_ Try.func41 (by kernel_rfl) rfl #[.agg #[.bool ((rd_T24 l1 x6_1).f0), .int .i64 ((rd_T24 l1 x6_1).f1), .string ((rd_T24 l1 x6_1).f2)], .int .i64 (l0_0.length : Int)] (by rfl) rfl rfl (by (try simp only [List.map_toArray, List.map_cons, List.map_nil]) <;> rfl) ?_
   with_reducible refine (columbariumref14_may.calls ((rd_T24 l1 x6_1).f0) ((rd_T24 l1 x6_1).f1) ((rd_T24 l1 x6_1).f2) (l0_0.length : Int) true _ A12.out).mono ?_
   rintro e w15 ⟨rfl, hb⟩
   refine ⟨_, rfl, ?_⟩
   have n0_ := am (bkB (pk BKz1) hb)
   have n1_ := am (bkB (pk BKz2) hb)
   have n2_ := am (below_step (by repeat first | (with_reducible first | exact HB.out | apply ba | apply bn | apply bd | refine bs (by assumption) ?_) | exact HB.out) hb)
   clear BKz1 BKz2 HB; have BKz1 := n0_; have BKz2 := n1_; have HB := n2_; clear n0_ n1_ n2_; refine hK.out _ _ ⟨(blk_cell BKz1.out 0).trans rfl, (blk_cell BKz1.out 1).trans rfl, ((HB.out.cell (World.block_lt_of_cell? w _ hwz10_0)).trans hwz10_0), ((HB.out.cell (World.block_lt_of_cell? w _ hwz10_1)).trans hwz10_1), ((HB.out.cell (World.block_lt_of_cell? w _ hwz10_2)).trans hwz10_2)⟩ (fun hHeld => ?_)
   clear hK K
   refine norm_ (by show Act.put _ (some 27) _ = _; simp only [Act.put, sa_, s0_, s1_, i64_w, i32_w]; rfl) ?_
   refine pu_ 8 (some 28) HT_ rfl rfl (.inl ⟨by rfl, by intro w'; go_simp; with_reducible rfl⟩) (by simp only [Act.put, sa_, s0_, s1_, i64_w, i32_w]; rfl) ?_
   refine done_ (done_of HT_.out (by kernel_rfl)) ?_
   try go_wp2
   go_roundg k1
   case measure => have := HK1.out; omega
   case rel => exact ⟨(wrap64 (x6_1 + 1)), (by first | rfl | (simp; done) | (simp [*]; done)), H', ⟨by have := HK1.out; omega⟩, ⟨by (with_reducible repeat (first | refine blk_drewN ?_ _ | refine bkD ?_ | refine bkA ?_ _)); exact BKz1.out⟩, ⟨by (with_reducible repeat (first | refine blk_drewN ?_ _ | refine bkD ?_ | refine bkA ?_ _)); exact BKz2.out⟩, ⟨by repeat first | (with_reducible first | exact HB.out | apply ba | apply bn | apply bd | refine bs (by assumption) ?_) | exact HB.out⟩⟩
  replace c13 := Bool.eq_false_iff.mpr c13
  subst c13
  have H1 : ((columbariumref14_Own.f l0_0 l0_1).bind fun btz12 => (some (btz12.1, btz12.2, 1))) = some (r1, r2, r3) := by rw [if_neg (show ¬ (false = true) by decide)] at H; exact H
  clear H
  have H := H1
  clear H1
  replace H := ob_ H
  obtain ⟨⟨tz12, tz15⟩, A160, H⟩ := H
  replace H : (some (tz12, tz15, 1)) = some (r1, r2, r3) := H
  have A16 := Aside0.mk A160
  clear A160
  simp only [Option.some.injEq, Prod.mk.injEq] at H
  obtain ⟨rfl, rfl, rfl⟩ := H
  try go_wp2
  have n0_ := am (bkD BKz1.out)
  have n1_ := am (bkD BKz2.out)
  have n2_ := am (below_drew1 HB.out)
  clear BKz1 BKz2 HB; have BKz1 := n0_; have BKz2 := n1_; have HB := n2_; clear n0_ n1_ n2_
  have pz10 : 0 ≤ (x6_1 : Int) := of_decide_eq_true (by first | (with_reducible assumption) | assumption)
  have qz10 : x6_1 < (l1.length : Int) := of_decide_eq_true (by first | (with_reducible assumption) | assumption)
  obtain ⟨adz10, ez10, hxz10_0, hxz10_1, hxz10_2⟩ := at_T24 HR1.out x6_1 pz10 qz10
  have hwz10_2 := hxz10_2
  have hwz10_1 := hxz10_1
  have hwz10_0 := hxz10_0
  cases ez10
  replace hxz10_0 := (HB.out.cell (World.block_lt_of_cell? w _ hxz10_0)).trans hxz10_0
  replace hxz10_1 := (HB.out.cell (World.block_lt_of_cell? w _ hxz10_1)).trans hxz10_1
  replace hxz10_2 := (HB.out.cell (World.block_lt_of_cell? w _ hxz10_2)).trans hxz10_2
  replace pz10 := eq_true pz10
  replace qz10 := eq_true qz10
  refine start_ (n := 9) (S := fun w' => w'.cell? ⟨gbz1, 0, none⟩ = some (.slice A0_0 l0_0.length c0_0) ∧ w'.cell? ⟨gbz1, 1, none⟩ = some (.slice A0_1 l0_1.length c0_1) ∧ w'.cell? (adz10.add ((x6_1).toNat * 3)) = some (.bool ((rd_T24 l1 x6_1).f0)) ∧ w'.cell? ⟨(adz10.add ((x6_1).toNat * 3)).block, (adz10.add ((x6_1).toNat * 3)).off + 1, none⟩ = some (.int .i64 ((rd_T24 l1 x6_1).f1)) ∧ w'.cell? ⟨(adz10.add ((x6_1).toNat * 3)).block, (adz10.add ((x6_1).toNat * 3)).off + 2, none⟩ = some (.string ((rd_T24 l1 x6_1).f2))) (ds := []) #[false, false, false, false, false, false, false, false, false] (by kernel_rfl) rfl rfl ⟨(blk_cell BKz1.out 0).trans rfl, (blk_cell BKz1.out 1).trans rfl, ((HB.out.cell (World.block_lt_of_cell? w _ hwz10_0)).trans hwz10_0), ((HB.out.cell (World.block_lt_of_cell? w _ hwz10_1)).trans hwz10_1), ((HB.out.cell (World.block_lt_of_cell? w _ hwz10_2)).trans hwz10_2)⟩ (fun hHeld => ?_); refine with_tabW columbariumref14_Do.tab6 columbariumref14_Do.bits6 (fun HT_ HW_ => ?_)
  generalize wr.drew = w17 at BKz1 BKz2 HB hxz10_0 hxz10_1 hxz10_2 hHeld ⊢
  refine pu_ 0 (some 20) HT_ rfl rfl (.inl ⟨by rfl, by intro w'; go_simp; with_reducible rfl⟩) (by simp only [Act.put, sa_, s0_, s1_, i64_w, i32_w]; rfl) ?_
  refine pu_ 1 (some 21) HT_ rfl rfl (.inl ⟨by rfl, by intro w'; go_simp; with_reducible rfl⟩) (by simp only [Act.put, sa_, s0_, s1_, i64_w, i32_w]; rfl) ?_
  refine pu_ 2 (some 22) HT_ rfl rfl (.inl ⟨by rfl, by intro w'; go_simp; with_reducible rfl⟩) (by simp only [Act.put, sa_, s0_, s1_, i64_w, i32_w]; rfl) ?_
  refine pu_ 4 (some 24) HT_ rfl rfl (.inl ⟨by rfl, by intro w'; go_simp; with_reducible rfl⟩) (by simp only [Act.put, sa_, s0_, s1_, i64_w, i32_w]; rfl) ?_
  refine tk_ 3 (some 23) HT_ HW_ rfl rfl (.inl ⟨by rfl, by rintro w' ⟨s0, s1, s2, s3, s4⟩; go_simp; with_reducible rfl⟩) hHeld (by simp only [Act.put, sa_, s0_, s1_, i64_w, i32_w]; rfl) ?_
  refine tk_ 5 (some 25) HT_ HW_ rfl rfl (.inl ⟨by rfl, by rintro w' ⟨s0, s1, s2, s3, s4⟩; go_simp; with_reducible rfl⟩) hHeld (by simp only [Act.put, sa_, s0_, s1_, i64_w, i32_w]; rfl) ?_
  refine pu_ 6 (some 26) HT_ rfl rfl (.inl ⟨by rfl, by intro w'; go_simp; with_reducible rfl⟩) (by simp only [Act.put, sa_, s0_, s1_, i64_w, i32_w]; rfl) ?_
  refine on_ 7 (some 27) HT_ rfl rfl (fun K hK => ?_)
  refine goes_ Try.func41 (by kernel_rfl) rfl #[.agg #[.bool ((rd_T24 l1 x6_1).f0), .int .i64 ((rd_T24 l1 x6_1).f1), .string ((rd_T24 l1 x6_1).f2)], .int .i64 (l0_0.length : Int)] (by rfl) rfl rfl (by (try simp only [List.map_toArray, List.map_cons, List.map_nil]) <;> rfl) ?_
  with_reducible refine (columbariumref14_may.calls ((rd_T24 l1 x6_1).f0) ((rd_T24 l1 x6_1).f1) ((rd_T24 l1 x6_1).f2) (l0_0.length : Int) false _ A12.out).mono ?_
  rintro e w18 ⟨rfl, hb⟩
  refine ⟨_, rfl, ?_⟩
  have n0_ := am (bkB (pk BKz1) hb)
  have n1_ := am (bkB (pk BKz2) hb)
  have n2_ := am (below_step (by repeat first | (with_reducible first | exact HB.out | apply ba | apply bn | apply bd | refine bs (by assumption) ?_) | exact HB.out) hb)
  clear BKz1 BKz2 HB; have BKz1 := n0_; have BKz2 := n1_; have HB := n2_; clear n0_ n1_ n2_; refine hK.out _ _ ⟨(blk_cell BKz1.out 0).trans rfl, (blk_cell BKz1.out 1).trans rfl, ((HB.out.cell (World.block_lt_of_cell? w _ hwz10_0)).trans hwz10_0), ((HB.out.cell (World.block_lt_of_cell? w _ hwz10_1)).trans hwz10_1), ((HB.out.cell (World.block_lt_of_cell? w _ hwz10_2)).trans hwz10_2)⟩ (fun hHeld => ?_)
  clear hK K
  refine norm_ (by show Act.put _ (some 27) _ = _; simp only [Act.put, sa_, s0_, s1_, i64_w, i32_w]; rfl) ?_
  refine pu_ 8 (some 28) HT_ rfl rfl (.inl ⟨by rfl, by intro w'; go_simp; with_reducible rfl⟩) (by simp only [Act.put, sa_, s0_, s1_, i64_w, i32_w]; rfl) ?_
  refine done_ (done_of HT_.out (by kernel_rfl)) ?_
  have hnb19 := NBz1_z2.out
  have hnc19 := NBz2_z1.out
  obtain ⟨hcz20_0, hcz20_1⟩ := bc2 BKz1
  obtain ⟨hfz20_0, hfz20_1⟩ := bf2 BKz1
  try go_wp2_with (first | ((with_reducible refine gate_callee (f := 19) rfl ?_); refine goesL_ (some 30) rfl rfl Try.func19 (by kernel_rfl) rfl #[.agg #[.slice A0_0 l0_0.length c0_0, .slice A0_1 l0_1.length c0_1]] rfl (by (try simp only [List.map_toArray, List.map_cons, List.map_nil]) <;> rfl) ?_; (with_reducible refine (columbariumref14_Own.calls _ _ l0_0 _ _ l0_1 tz12 tz15 _ ?side1 ?side2 ?side3 ?side4 A16.out).mono ?_); (case side1 => repeat (first | exact (Kd.C_below HR0_0.out HB.out) | (with_reducible refine Kd.C_alloc ?_ _) | (with_reducible refine Kd.C_drewN ?_ _) | (with_reducible refine Kd.C_drew ?_))); (case side2 => exact HC0_0.out); (case side3 => repeat (first | exact (Kd.C_below HR0_1.out HB.out) | (with_reducible refine Kd.C_alloc ?_ _) | (with_reducible refine Kd.C_drewN ?_ _) | (with_reducible refine Kd.C_drew ?_))); (case side4 => exact HC0_1.out); rintro e w21 ⟨vz13, vz16, rfl, ho0, ho1, hb⟩; refine ⟨_, rfl, ?_⟩; have n0_ := am (Kd.R_lower ho0 (below_size (by repeat first | (with_reducible first | exact HB.out | apply ba | apply bn | apply bd | refine bs (by assumption) ?_) | exact HB.out))); have n1_ := am (Kd.R_lower ho1 (below_size (by repeat first | (with_reducible first | exact HB.out | apply ba | apply bn | apply bd | refine bs (by assumption) ?_) | exact HB.out))); have n2_ := am (bkB (pk BKz1) hb); have n3_ := am (bkB (pk BKz2) hb); have n4_ := am (below_step (by repeat first | (with_reducible first | exact HB.out | apply ba | apply bn | apply bd | refine bs (by assumption) ?_) | exact HB.out) hb); clear BKz1; clear BKz2; clear HB; have HOz14 := n0_; have HOz17 := n1_; have BKz1 := n2_; have BKz2 := n3_; have HB := n4_; clear n0_ n1_ n2_ n3_ n4_; obtain ⟨Ao22, co22, eo22⟩ := Kd.R_slice HOz14.out; subst eo22; obtain ⟨hcz23_0, hcz23_1⟩ := bc2 BKz2; obtain ⟨hfz23_0, hfz23_1⟩ := bf2 BKz2; obtain ⟨Ao24, co24, eo24⟩ := Kd.R_slice HOz17.out; subst eo24))
  refine bodyPost_ret (results_ct rfl _ _ gbz2 30 #[.slice Ao22 tz12.length co22, .slice Ao24 tz15.length co24] (0, 0) _ rfl (by (with_reducible repeat (first | refine blk_drewN ?_ _ | refine bkD ?_ | refine bkA ?_ _)); apply bp2; exact pk BKz2) Try.underlying30 rfl (by kernel_rfl)) rfl ?_
  exact ⟨_, _, by first | rfl | (simp <;> rfl) | (simp [*] <;> rfl), by (with_reducible repeat first | apply ra | apply rn | apply rd); exact Kd.R_mono (rf2 (Kd.R_types HOz14.out BKz2.out (by decide)) (fun _ hk => hk.2)) (fun _ hk => trivial), by (with_reducible repeat first | apply ra | apply rn | apply rd); exact Kd.R_mono (rf2 (Kd.R_types HOz17.out BKz2.out (by decide)) (fun _ hk => hk.2)) (fun _ hk => trivial), by repeat first | (with_reducible first | exact HB.out | apply ba | apply bn | apply bd | refine bs (by assumption) ?_) | exact HB.out⟩
 rw [if_neg c10] at H
 have c10b0 : decide (x6_1 < (l1.length : Int)) = false := decide_eq_false c10
 clear c10
 replace H := ob_ H
 obtain ⟨⟨tz18, tz21⟩, A250, H⟩ := H
 replace H : (columbariumref14_Do.l1 k1 l1 0 l0_0 l0_1 tz18 tz21) = some (r1, r2, r3) := H
 have A25 := Aside0.mk A250
 clear A250
 have H' := am H
 clear H
 have hnb26 := NBz1_z2.out
 have hnc26 := NBz2_z1.out
 obtain ⟨hcz27_0, hcz27_1⟩ := bc2 BKz1
 obtain ⟨hfz27_0, hfz27_1⟩ := bf2 BKz1
 go_wp2_with (first | ((with_reducible refine gate_callee (f := 19) rfl ?_); refine goesL_ (some 32) rfl rfl Try.func19 (by kernel_rfl) rfl #[.agg #[.slice A0_0 l0_0.length c0_0, .slice A0_1 l0_1.length c0_1]] rfl (by (try simp only [List.map_toArray, List.map_cons, List.map_nil]) <;> rfl) ?_; (with_reducible refine (columbariumref14_Own.calls _ _ l0_0 _ _ l0_1 tz18 tz21 _ ?side1 ?side2 ?side3 ?side4 A25.out).mono ?_); (case side1 => repeat (first | exact (Kd.C_below HR0_0.out HB.out) | (with_reducible refine Kd.C_alloc ?_ _) | (with_reducible refine Kd.C_drewN ?_ _) | (with_reducible refine Kd.C_drew ?_))); (case side2 => exact HC0_0.out); (case side3 => repeat (first | exact (Kd.C_below HR0_1.out HB.out) | (with_reducible refine Kd.C_alloc ?_ _) | (with_reducible refine Kd.C_drewN ?_ _) | (with_reducible refine Kd.C_drew ?_))); (case side4 => exact HC0_1.out); rintro e w28 ⟨vz19, vz22, rfl, ho0, ho1, hb⟩; refine ⟨_, rfl, ?_⟩; have n0_ := am (Kd.R_lower ho0 (below_size (by repeat first | (with_reducible first | exact HB.out | apply ba | apply bn | apply bd | refine bs (by assumption) ?_) | exact HB.out))); have n1_ := am (Kd.R_lower ho1 (below_size (by repeat first | (with_reducible first | exact HB.out | apply ba | apply bn | apply bd | refine bs (by assumption) ?_) | exact HB.out))); have n2_ := am (bkB (pk BKz1) hb); have n3_ := am (bkB (pk BKz2) hb); have n4_ := am (below_step (by repeat first | (with_reducible first | exact HB.out | apply ba | apply bn | apply bd | refine bs (by assumption) ?_) | exact HB.out) hb); clear BKz1; clear BKz2; clear HB; have HOz20 := n0_; have HOz23 := n1_; have BKz1 := n2_; have BKz2 := n3_; have HB := n4_; clear n0_ n1_ n2_ n3_ n4_; (try clear ho1)) | ((with_reducible refine gate_dst (N := 7) rfl ?_); refine box_event ?hg (N := 7) ?hd (cs := #[.slice none 0 0, .slice none 0 0]) (t := 30) ?hr ?_; (case hd => rfl); (case hg => rfl); (case hr => first | (go_simp; done) | (go_simp; rfl)); intro gbz24 hg w29 hbox hb; have n0_ := am (Kd.R_below (pr HOz20) hb); have n1_ := am (Kd.R_below (pr HOz23) hb); have n2_ := am (bkB (pk BKz1) hb); have n3_ := am (bkB (pk BKz2) hb); have n4_ := am (below_step (by repeat first | (with_reducible first | exact HB.out | apply ba | apply bn | apply bd | refine bs (by assumption) ?_) | exact HB.out) hb); have n5_ := am (hbox); have n6_ := ge_ hg (by repeat first | (with_reducible first | exact HB.out | apply ba | apply bn | apply bd | refine bs (by assumption) ?_) | exact HB.out); have n7_ := ge_ hg (by repeat first | (with_reducible first | exact HB.out | apply ba | apply bn | apply bd | refine bs (by assumption) ?_) | exact HB.out); have n8_ := nl_ hg BKz1; have n9_ := ng_ hg BKz1; have n10_ := nl_ hg BKz2; have n11_ := ng_ hg BKz2; clear HOz20; clear HOz23; clear BKz1; clear BKz2; clear HB; have HOz20 := n0_; have HOz23 := n1_; have BKz1 := n2_; have BKz2 := n3_; have HB := n4_; have BKz24 := n5_; have GWz24 := n6_; have GEz24 := n7_; have NBz1_z24 := n8_; have NBz24_z1 := n9_; have NBz2_z24 := n10_; have NBz24_z2 := n11_; clear n0_ n1_ n2_ n3_ n4_ n5_ n6_ n7_ n8_ n9_ n10_ n11_; clear hb hbox hg; obtain ⟨Ao30, co30, eo30⟩ := Kd.R_slice HOz20.out; subst eo30; have hnb31 := NBz24_z1.out; have hnc31 := NBz1_z24.out; have hnb32 := NBz24_z2.out; have hnc32 := NBz2_z24.out; obtain ⟨hcz33_0, hcz33_1⟩ := bc2 BKz24; obtain ⟨hfz33_0, hfz33_1⟩ := bf2 BKz24; obtain ⟨Ao34, co34, eo34⟩ := Kd.R_slice HOz23.out; subst eo34))
 go_loopg [8] k1 (fun kq v8 w' => ∃ (x8_2 : Int) (xz25000_2 : List ByteArray) (xz25001_2 : List (S24)) (uz25000 : Value) (uz25001 : Value), v8 = .int .i64 x8_2 ∧ Aside0 (columbariumref14_Do.l1 kq l1 x8_2 l0_0 l0_1 xz25000_2 xz25001_2 = some (r1, r2, r3)) ∧ Aside0 (kq ≤ k1) ∧ Aside0 (Kd.R Kd.string 9 w' w.heap.size (fun _ => True) uz25000 xz25000_2) ∧ Aside0 (Kd.R k24 24 w' w.heap.size (fun _ => True) uz25001 xz25001_2) ∧ Aside0 (w'.heap[gbz1]? = some (.cells #[(.slice A0_0 l0_0.length c0_0), (.slice A0_1 l0_1.length c0_1)] 30 (0, 0))) ∧ Aside0 (w'.heap[gbz2]? = some (.cells #[(.slice none 0 0), (.slice none 0 0)] 30 (0, 0))) ∧ Aside0 (w'.heap[gbz24]? = some (.cells #[uz25000, uz25001] 30 (0, 0))) ∧ Aside0 (Below w.heap.size w w'))
 case atStart => exact ⟨(0), (tz18), (tz21), (.slice Ao30 tz18.length co30), (.slice Ao34 tz21.length co34), (by first | rfl | (simp; done) | (simp [*]; done)), H', ⟨Nat.le_refl _⟩, ⟨by (with_reducible repeat first | apply ra | apply rn | apply rd); exact Kd.R_mono (rf2 (Kd.R_types HOz20.out BKz24.out (by decide)) (fun _ hk => hk.2)) (fun _ hk => trivial)⟩, ⟨by (with_reducible repeat first | apply ra | apply rn | apply rd); exact Kd.R_mono (rf2 (Kd.R_types HOz23.out BKz24.out (by decide)) (fun _ hk => hk.2)) (fun _ hk => trivial)⟩, ⟨by (with_reducible repeat (first | refine blk_drewN ?_ _ | refine bkD ?_ | refine bkA ?_ _)); refine blk_far ?_ NBz1_z24.out _; refine blk_far ?_ NBz1_z24.out _; (with_reducible repeat (first | refine blk_drewN ?_ _ | refine bkD ?_ | refine bkA ?_ _)); exact BKz1.out⟩, ⟨by (with_reducible repeat (first | refine blk_drewN ?_ _ | refine bkD ?_ | refine bkA ?_ _)); refine blk_far ?_ NBz2_z24.out _; refine blk_far ?_ NBz2_z24.out _; (with_reducible repeat (first | refine blk_drewN ?_ _ | refine bkD ?_ | refine bkA ?_ _)); exact BKz2.out⟩, ⟨by (with_reducible repeat (first | refine blk_drewN ?_ _ | refine bkD ?_ | refine bkA ?_ _)); apply bp2; (with_reducible repeat (first | refine blk_drewN ?_ _ | refine bkD ?_ | refine bkA ?_ _)); exact BKz24.out⟩, ⟨by repeat first | (with_reducible first | exact HB.out | apply ba | apply bn | apply bd | refine bs (by assumption) ?_) | exact HB.out⟩⟩
 clear H'
 try clear c1
 try clear p1
 try clear q1
 try clear hx1
 try clear c2
 try clear p2
 try clear c3
 try clear c4
 try clear p6
 try clear c7
 try clear c10
 try clear c10b0
 try clear c11
 try clear c11b0
 try clear c13
 try clear c17
 try clear p17
 try clear q17
 try clear hx17
 try clear c19
 try clear c21
 try clear c26
 try clear c31
 try clear c32
 try clear hcz20_0
 try clear hcz20_1
 try clear hcz23_0
 try clear hcz23_1
 try clear hcz27_0
 try clear hcz27_1
 try clear hcz33_0
 try clear hcz33_1
 try clear hcz8_0
 try clear hcz8_1
 try clear hfz20_0
 try clear hfz20_1
 try clear hfz23_0
 try clear hfz23_1
 try clear hfz27_0
 try clear hfz27_1
 try clear hfz33_0
 try clear hfz33_1
 try clear hfz8_0
 try clear hfz8_1
 try clear hxz10_0
 try clear hxz10_1
 try clear hxz10_2
 try clear pz10
 try clear p2
 try clear qz10
 obtain ⟨x8_2, xz25000_2, xz25001_2, uz25000, uz25001, rfl, HA, HK2, HO_z25000, HO_z25001, BKz1, BKz2, BKz24, HB⟩ := hrel
 cases gk with
 | zero => exact absurd HA.out (by simp [columbariumref14_Do.l1])
 | succ k2 => ?_
 have H := HA.out
 clear HA
 simp only [columbariumref14_Do.l1] at H
 by_cases c35 : x8_2 < (l1.length : Int)
 rotate_left
 ·rw [if_neg c35] at H
  have c35b0 : decide (x8_2 < (l1.length : Int)) = false := decide_eq_false c35
  clear c35
  simp only [Option.some.injEq, Prod.mk.injEq] at H
  obtain ⟨rfl, rfl, rfl⟩ := H
  have hnb72 := NBz24_z1.out
  have hnc72 := NBz1_z24.out
  have hnb73 := NBz24_z2.out
  have hnc73 := NBz2_z24.out
  obtain ⟨hcz74_0, hcz74_1⟩ := bc2 BKz24
  obtain ⟨hfz74_0, hfz74_1⟩ := bf2 BKz24
  obtain ⟨Ao75, co75, eo75⟩ := Kd.R_slice HO_z25000.out
  subst eo75
  have hnb76 := NBz2_z1.out
  have hnc76 := NBz1_z2.out
  obtain ⟨hcz77_0, hcz77_1⟩ := bc2 BKz2
  obtain ⟨hfz77_0, hfz77_1⟩ := bf2 BKz2
  obtain ⟨Ao78, co78, eo78⟩ := Kd.R_slice HO_z25001.out
  subst eo78
  go_wp2
  refine bodyPost_ret (results_ct rfl _ _ gbz2 30 #[.slice Ao75 xz25000_2.length co75, .slice Ao78 xz25001_2.length co78] (0, 0) _ rfl (by (with_reducible repeat (first | refine blk_drewN ?_ _ | refine bkD ?_ | refine bkA ?_ _)); apply bp2; exact pk BKz2) Try.underlying30 rfl (by kernel_rfl)) rfl ?_
  exact ⟨_, _, by first | rfl | (simp <;> rfl) | (simp [*] <;> rfl), by (with_reducible repeat first | apply ra | apply rn | apply rd); exact Kd.R_mono (rf2 (Kd.R_types HO_z25000.out BKz2.out (by decide)) (fun _ hk => hk.2)) (fun _ hk => trivial), by (with_reducible repeat first | apply ra | apply rn | apply rd); exact Kd.R_mono (rf2 (Kd.R_types HO_z25001.out BKz2.out (by decide)) (fun _ hk => hk.2)) (fun _ hk => trivial), by repeat first | (with_reducible first | exact HB.out | apply ba | apply bn | apply bd | refine bs (by assumption) ?_) | exact HB.out⟩
 rw [if_pos c35] at H
 have c35b0 : decide (x8_2 < (l1.length : Int)) = true := decide_eq_true c35
 clear c35
 by_cases c36 : 0 ≤ x8_2
 rotate_left
 ·rw [if_neg c36] at H
  exact absurd H (by simp)
 rw [if_pos c36] at H
 have c36b0 : decide (0 ≤ x8_2) = true := decide_eq_true c36
 clear c36
 obtain ⟨bq37, hbq37⟩ : ∃ b_ : Bool, b_ = ((rd_T24 l1 x8_2).f0) := ⟨_, rfl⟩
 replace H : (if bq37 = true then ((columbariumref14_whole.f k2 (xz25001_2.length : Int)).bind fun tz26 => ((columbariumref14_fallen.f k2 xz25000_2 xz25001_2 tz26).bind fun btz29 => (columbariumref14_Do.l1 k2 l1 (wrap64 (x8_2 + 1)) l0_0 l0_1 btz29.1 btz29.2))) else (if (xz25001_2.length : Int) ≥ 3000 then ((columbariumref14_Own.f l0_0 l0_1).bind fun btz35 => (some (btz35.1, btz35.2, 2))) else (if xz25001_2.length < 4398046511104 then (columbariumref14_Do.l1 k2 l1 (wrap64 (x8_2 + 1)) l0_0 l0_1 xz25000_2 (xz25001_2 ++ [(⟨bq37, (rd_T24 l1 x8_2).f1, (rd_T24 l1 x8_2).f2⟩ : S24)])) else (none)))) = some (r1, r2, r3) := by rw [← hbq37] at H; exact H
 have Nbq37 := am hbq37
 clear hbq37
 by_cases c38 : bq37 = true
 ·subst c38
  have H1 : ((columbariumref14_whole.f k2 (xz25001_2.length : Int)).bind fun tz26 => ((columbariumref14_fallen.f k2 xz25000_2 xz25001_2 tz26).bind fun btz29 => (columbariumref14_Do.l1 k2 l1 (wrap64 (x8_2 + 1)) l0_0 l0_1 btz29.1 btz29.2))) = some (r1, r2, r3) := by rw [if_pos rfl] at H; exact H
  clear H
  have H := H1
  clear H1
  replace H := ob_ H
  obtain ⟨tz26, A390, H⟩ := H
  replace H : ((columbariumref14_fallen.f k2 xz25000_2 xz25001_2 tz26).bind fun btz29 => (columbariumref14_Do.l1 k2 l1 (wrap64 (x8_2 + 1)) l0_0 l0_1 btz29.1 btz29.2)) = some (r1, r2, r3) := H
  have A39 := Aside0.mk A390
  clear A390
  replace H := ob_ H
  obtain ⟨⟨tz29, tz32⟩, A400, H⟩ := H
  replace H : (columbariumref14_Do.l1 k2 l1 (wrap64 (x8_2 + 1)) l0_0 l0_1 tz29 tz32) = some (r1, r2, r3) := H
  have A40 := Aside0.mk A400
  clear A400
  have H' := am H
  clear H
  have pz25 : 0 ≤ (x8_2 : Int) := of_decide_eq_true (by first | (with_reducible assumption) | assumption)
  have qz25 : x8_2 < (l1.length : Int) := of_decide_eq_true (by first | (with_reducible assumption) | assumption)
  obtain ⟨adz25, ez25, hxz25_0, hxz25_1, hxz25_2⟩ := at_T24 HR1.out x8_2 pz25 qz25
  (try rw [← Nbq37.out] at hxz25_0); (try rw [← Nbq37.out] at hwz25_0)
  cases ez25
  replace hxz25_0 := (HB.out.cell (World.block_lt_of_cell? w _ hxz25_0)).trans hxz25_0
  replace hxz25_1 := (HB.out.cell (World.block_lt_of_cell? w _ hxz25_1)).trans hxz25_1
  replace hxz25_2 := (HB.out.cell (World.block_lt_of_cell? w _ hxz25_2)).trans hxz25_2
  replace pz25 := eq_true pz25
  replace qz25 := eq_true qz25
  try go_wp2
  have n0_ := am (Kd.R_drew HO_z25000.out)
  have n1_ := am (Kd.R_drew HO_z25001.out)
  have n2_ := am (bkD BKz1.out)
  have n3_ := am (bkD BKz2.out)
  have n4_ := am (bkD BKz24.out)
  have n5_ := am (below_drew1 HB.out)
  clear HO_z25000 HO_z25001 BKz1 BKz2 BKz24 HB; have HO_z25000 := n0_; have HO_z25001 := n1_; have BKz1 := n2_; have BKz2 := n3_; have BKz24 := n4_; have HB := n5_; clear n0_ n1_ n2_ n3_ n4_ n5_
  obtain ⟨Ao42, co42, eo42⟩ := Kd.R_slice HO_z25001.out
  (first | subst eo42 | (injection eo42 with f1_ f2_ f3_; have f4_ := f1_.symm; have f5_ := f3_.symm; clear f1_ f2_ f3_; subst f4_; subst f5_))
  refine start_ (n := 7) (S := fun w' => w'.cell? ⟨gbz24, 0, none⟩ = some (uz25000) ∧ w'.cell? ⟨gbz24, 1, none⟩ = some (.slice Ao42 xz25001_2.length co42)) (ds := [6]) #[false, false, false, false, false, false, false] (by kernel_rfl) rfl rfl (bc2 BKz24) (fun hHeld => ?_)
  generalize wr.drew = w41 at HO_z25000 HO_z25001 BKz1 BKz2 BKz24 HB hHeld ⊢
  refine pn_ 1 (some 45) rfl rfl (.inl ⟨by rfl, by intro w'; go_simp; with_reducible rfl⟩) (by simp only [Act.put, sa_, s0_, s1_, i64_w, i32_w]; rfl) ?_
  refine tn_ 0 (some 44) rfl rfl (.inl ⟨by rfl, by rintro w' ⟨s0, s1⟩; go_simp; with_reducible rfl⟩) hHeld (by simp only [Act.put, sa_, s0_, s1_, i64_w, i32_w]; rfl) ?_
  refine tn_ 2 (some 46) rfl rfl (.inl ⟨by rfl, by rintro w' ⟨s0, s1⟩; go_simp; with_reducible rfl⟩) hHeld (by simp only [Act.put, sa_, s0_, s1_, i64_w, i32_w]; rfl) ?_
  refine pn_ 3 (some 47) rfl rfl (.inl ⟨by rfl, by intro w'; go_simp; with_reducible rfl⟩) (by simp only [Act.put, sa_, s0_, s1_, i64_w, i32_w]; rfl) ?_
  refine one_ (i := 4) (N := some 48) #[true, true, true, true, true, false, false] rfl rfl (by kernel_rfl) (by decide) (fun K hK => ?_)
  refine goes_ Try.func43 (by kernel_rfl) rfl #[.int .i64 (xz25001_2.length : Int)] (by rfl) rfl rfl (by (try simp only [List.map_toArray, List.map_cons, List.map_nil]) <;> rfl) ?_
  with_reducible refine (columbariumref14_whole.calls k2 (xz25001_2.length : Int) tz26 _ A39.out).mono ?_
  rintro e w43 ⟨vz27, rfl, ho0, hb⟩
  refine ⟨_, rfl, ?_⟩
  have n0_ := am (Kd.R_below (pr HO_z25000) hb)
  have n1_ := am (Kd.R_below (pr HO_z25001) hb)
  have n2_ := am (Kd.R_lower ho0 (below_size (by repeat first | (with_reducible first | exact HB.out | apply ba | apply bn | apply bd | refine bs (by assumption) ?_) | exact HB.out)))
  have n3_ := am (bkB (pk BKz1) hb)
  have n4_ := am (bkB (pk BKz2) hb)
  have n5_ := am (bkB (pk BKz24) hb)
  have n6_ := am (below_step (by repeat first | (with_reducible first | exact HB.out | apply ba | apply bn | apply bd | refine bs (by assumption) ?_) | exact HB.out) hb)
  clear HO_z25000 HO_z25001 BKz1 BKz2 BKz24 HB; have HO_z25000 := n0_; have HO_z25001 := n1_; have HOz28 := n2_; have BKz1 := n3_; have BKz2 := n4_; have BKz24 := n5_; have HB := n6_; clear n0_ n1_ n2_ n3_ n4_ n5_ n6_; obtain ⟨Ao44, co44, eo44⟩ := Kd.R_slice HO_z25000.out
  (first | subst eo44 | (injection eo44 with f1_ f2_ f3_; have f4_ := f1_.symm; have f5_ := f3_.symm; clear f1_ f2_ f3_; subst f4_; subst f5_))
  obtain ⟨Ao45, co45, eo45⟩ := Kd.R_slice HOz28.out
  (first | subst eo45 | (injection eo45 with f1_ f2_ f3_; have f4_ := f1_.symm; have f5_ := f3_.symm; clear f1_ f2_ f3_; subst f4_; subst f5_))
  refine hK.out _ _ (bc2 BKz24) (fun hHeld => ?_)
  clear hK K
  refine norm_ (by show Act.put _ (some 48) _ = _; simp only [Act.put, sa_, s0_, s1_, i64_w, i32_w]; rfl) ?_
  refine one_ (i := 5) (N := some 49) #[true, true, true, true, true, true, false] rfl rfl (by kernel_rfl) (by decide) (fun K hK => ?_)
  refine goes_ Try.func42 (by kernel_rfl) rfl #[.agg #[.slice Ao44 xz25000_2.length co44, .slice Ao42 xz25001_2.length co42], .slice Ao45 tz26.length co45] (by rfl) rfl rfl (by (try simp only [List.map_toArray, List.map_cons, List.map_nil]) <;> rfl) ?_
  with_reducible refine (columbariumref14_fallen.calls k2 _ _ xz25000_2 _ _ xz25001_2 _ _ tz26 tz29 tz32 _ ?side1 ?side2 ?side3 ?side4 ?side5 ?side6 A40.out).mono ?_
  (case side1 => repeat (first | exact (Kd.R_reads' HO_z25000.out).2.2 | (with_reducible refine Kd.C_alloc ?_ _) | (with_reducible refine Kd.C_drewN ?_ _) | (with_reducible refine Kd.C_drew ?_)))
  (case side2 => exact (Kd.R_reads' HO_z25000.out).2.1)
  (case side3 => repeat (first | exact (Kd.R_reads' HO_z25001.out).2.2 | (with_reducible refine Kd.C_alloc ?_ _) | (with_reducible refine Kd.C_drewN ?_ _) | (with_reducible refine Kd.C_drew ?_)))
  (case side4 => exact (Kd.R_reads' HO_z25001.out).2.1)
  (case side5 => repeat (first | exact (Kd.R_reads' HOz28.out).2.2 | (with_reducible refine Kd.C_alloc ?_ _) | (with_reducible refine Kd.C_drewN ?_ _) | (with_reducible refine Kd.C_drew ?_)))
  (case side6 => exact (Kd.R_reads' HOz28.out).2.1)
  rintro e w46 ⟨vz30, vz33, rfl, ho0, ho1, hb⟩
  refine ⟨_, rfl, ?_⟩
  have n0_ := am (Kd.R_elder' (pr HO_z25000) (Kd.R_base ho0) hb)
  have n1_ := am (Kd.R_elder' (pr HO_z25001) (Kd.R_base ho1) hb)
  have n2_ := am (Kd.R_below (pr HOz28) hb)
  have n3_ := am (Kd.R_lower (Kd.R_new' ho0 (Kd.R_lt (pr HO_z25000))) (below_size (by repeat first | (with_reducible first | exact HB.out | apply ba | apply bn | apply bd | refine bs (by assumption) ?_) | exact HB.out)))
  have n4_ := am (Kd.R_lower (Kd.R_new' ho1 (Kd.R_lt (pr HO_z25001))) (below_size (by repeat first | (with_reducible first | exact HB.out | apply ba | apply bn | apply bd | refine bs (by assumption) ?_) | exact HB.out)))
  have n5_ := am (bkB (pk BKz1) hb)
  have n6_ := am (bkB (pk BKz2) hb)
  have n7_ := am (bkB (pk BKz24) hb)
  have n8_ := am (below_step (by repeat first | (with_reducible first | exact HB.out | apply ba | apply bn | apply bd | refine bs (by assumption) ?_) | exact HB.out) hb)
  clear HO_z25000 HO_z25001 HOz28 BKz1 BKz2 BKz24 HB; have HO_z25000 := n0_; have HO_z25001 := n1_; have HOz28 := n2_; have HOz31 := n3_; have HOz34 := n4_; have BKz1 := n5_; have BKz2 := n6_; have BKz24 := n7_; have HB := n8_; clear n0_ n1_ n2_ n3_ n4_ n5_ n6_ n7_ n8_; obtain ⟨Ao47, co47, eo47⟩ := Kd.R_slice HOz31.out
  (first | subst eo47 | (injection eo47 with f1_ f2_ f3_; have f4_ := f1_.symm; have f5_ := f3_.symm; clear f1_ f2_ f3_; subst f4_; subst f5_))
  obtain ⟨Ao49, co49, eo49⟩ := Kd.R_slice HOz34.out
  (first | subst eo49 | (injection eo49 with f1_ f2_ f3_; have f4_ := f1_.symm; have f5_ := f3_.symm; clear f1_ f2_ f3_; subst f4_; subst f5_))
  refine hK.out _ _ (bc2 BKz24) (fun hHeld => ?_)
  clear hK K
  refine norm_ (by show Act.put _ (some 49) _ = _; simp only [Act.put, sa_, s0_, s1_, i64_w, i32_w]; rfl) ?_
  refine last_ (i := 6) (N := none) #[true, true, true, true, true, true, true] rfl rfl (by kernel_rfl) (by decide) (fun K hK => ?_)
  have hs48 : w46.cell? ⟨gbz24, 0, none⟩ = some (.slice Ao44 xz25000_2.length co44) := (blk_cell BKz24.out 0).trans rfl
  have hfs48 := blk_frozen BKz24.out 0
  have := NBz1_z24.out
  have := NBz2_z24.out
  have := NBz24_z1.out
  have := NBz24_z2.out
  have hs50 : w46.cell? ⟨gbz24, 1, none⟩ = some (.slice Ao42 xz25001_2.length co42) := (blk_cell BKz24.out 1).trans rfl
  have hfs50 := blk_frozen BKz24.out 1
  have := NBz1_z24.out
  have := NBz2_z24.out
  have := NBz24_z1.out
  have := NBz24_z2.out
  refine skip_ (by rfl) rfl (by go_simp; rfl) ?_
  refine hK.out _ _ ?_
  clear hK K
  refine done_ (by kernel_rfl) ?_
  try go_wp2
  go_roundg k2
  case measure => have := HK1.out; have := HK2.out; omega
  case rel => exact ⟨(wrap64 (x8_2 + 1)), (tz29), (tz32), (.slice Ao47 tz29.length co47), (.slice Ao49 tz32.length co49), (by first | rfl | (simp; done) | (simp [*]; done)), H', ⟨by have := HK1.out; have := HK2.out; omega⟩, ⟨by (with_reducible repeat first | apply ra | apply rn | apply rd); exact Kd.R_mono (rf2 (Kd.R_types HOz31.out BKz24.out (by decide)) (fun _ hk => hk.2)) (fun _ hk => trivial)⟩, ⟨by (with_reducible repeat first | apply ra | apply rn | apply rd); exact Kd.R_mono (rf2 (Kd.R_types HOz34.out BKz24.out (by decide)) (fun _ hk => hk.2)) (fun _ hk => trivial)⟩, ⟨by (with_reducible repeat (first | refine blk_drewN ?_ _ | refine bkD ?_ | refine bkA ?_ _)); refine blk_far ?_ NBz1_z24.out _; refine blk_far ?_ NBz1_z24.out _; (with_reducible repeat (first | refine blk_drewN ?_ _ | refine bkD ?_ | refine bkA ?_ _)); exact BKz1.out⟩, ⟨by (with_reducible repeat (first | refine blk_drewN ?_ _ | refine bkD ?_ | refine bkA ?_ _)); refine blk_far ?_ NBz2_z24.out _; refine blk_far ?_ NBz2_z24.out _; (with_reducible repeat (first | refine blk_drewN ?_ _ | refine bkD ?_ | refine bkA ?_ _)); exact BKz2.out⟩, ⟨by (with_reducible repeat (first | refine blk_drewN ?_ _ | refine bkD ?_ | refine bkA ?_ _)); apply bp2; (with_reducible repeat (first | refine blk_drewN ?_ _ | refine bkD ?_ | refine bkA ?_ _)); exact BKz24.out⟩, ⟨by repeat first | (with_reducible first | exact HB.out | apply ba | apply bn | apply bd | refine bs (by assumption) ?_) | exact HB.out⟩⟩
 replace c38 := Bool.eq_false_iff.mpr c38
 subst c38
 have H1 : (if (xz25001_2.length : Int) ≥ 3000 then ((columbariumref14_Own.f l0_0 l0_1).bind fun btz35 => (some (btz35.1, btz35.2, 2))) else (if xz25001_2.length < 4398046511104 then (columbariumref14_Do.l1 k2 l1 (wrap64 (x8_2 + 1)) l0_0 l0_1 xz25000_2 (xz25001_2 ++ [(⟨false, (rd_T24 l1 x8_2).f1, (rd_T24 l1 x8_2).f2⟩ : S24)])) else (none))) = some (r1, r2, r3) := by rw [if_neg (show ¬ (false = true) by decide)] at H; exact H
 clear H
 have H := H1
 clear H1
 by_cases c51 : (xz25001_2.length : Int) ≥ 3000
 ·rw [if_pos c51] at H
  have c51b0 : decide (3000 ≤ (xz25001_2.length : Int)) = true := decide_eq_true c51
  have c51b1 : decide (3000 ≤ xz25001_2.length) = true := decide_eq_true (by omega)
  clear c51
  replace H := ob_ H
  obtain ⟨⟨tz35, tz38⟩, A520, H⟩ := H
  replace H : (some (tz35, tz38, 2)) = some (r1, r2, r3) := H
  have A52 := Aside0.mk A520
  clear A520
  simp only [Option.some.injEq, Prod.mk.injEq] at H
  obtain ⟨rfl, rfl, rfl⟩ := H
  have pz25 : 0 ≤ (x8_2 : Int) := of_decide_eq_true (by first | (with_reducible assumption) | assumption)
  have qz25 : x8_2 < (l1.length : Int) := of_decide_eq_true (by first | (with_reducible assumption) | assumption)
  obtain ⟨adz25, ez25, hxz25_0, hxz25_1, hxz25_2⟩ := at_T24 HR1.out x8_2 pz25 qz25
  (try rw [← Nbq37.out] at hxz25_0); (try rw [← Nbq37.out] at hwz25_0)
  cases ez25
  replace hxz25_0 := (HB.out.cell (World.block_lt_of_cell? w _ hxz25_0)).trans hxz25_0
  replace hxz25_1 := (HB.out.cell (World.block_lt_of_cell? w _ hxz25_1)).trans hxz25_1
  replace hxz25_2 := (HB.out.cell (World.block_lt_of_cell? w _ hxz25_2)).trans hxz25_2
  replace pz25 := eq_true pz25
  replace qz25 := eq_true qz25
  have hnb53 := NBz24_z1.out
  have hnc53 := NBz1_z24.out
  have hnb54 := NBz24_z2.out
  have hnc54 := NBz2_z24.out
  obtain ⟨hcz55_0, hcz55_1⟩ := bc2 BKz24
  obtain ⟨hfz55_0, hfz55_1⟩ := bf2 BKz24
  obtain ⟨Ao56, co56, eo56⟩ := Kd.R_slice HO_z25001.out
  subst eo56
  have hnb57 := NBz1_z2.out
  have hnc57 := NBz2_z1.out
  obtain ⟨hcz58_0, hcz58_1⟩ := bc2 BKz1
  obtain ⟨hfz58_0, hfz58_1⟩ := bf2 BKz1
  go_wp2_with (first | ((with_reducible refine gate_callee (f := 19) rfl ?_); refine goesL_ (some 55) rfl rfl Try.func19 (by kernel_rfl) rfl #[.agg #[.slice A0_0 l0_0.length c0_0, .slice A0_1 l0_1.length c0_1]] rfl (by (try simp only [List.map_toArray, List.map_cons, List.map_nil]) <;> rfl) ?_; (with_reducible refine (columbariumref14_Own.calls _ _ l0_0 _ _ l0_1 tz35 tz38 _ ?side1 ?side2 ?side3 ?side4 A52.out).mono ?_); (case side1 => repeat (first | exact (Kd.C_below HR0_0.out HB.out) | (with_reducible refine Kd.C_alloc ?_ _) | (with_reducible refine Kd.C_drewN ?_ _) | (with_reducible refine Kd.C_drew ?_))); (case side2 => exact HC0_0.out); (case side3 => repeat (first | exact (Kd.C_below HR0_1.out HB.out) | (with_reducible refine Kd.C_alloc ?_ _) | (with_reducible refine Kd.C_drewN ?_ _) | (with_reducible refine Kd.C_drew ?_))); (case side4 => exact HC0_1.out); rintro e w59 ⟨vz36, vz39, rfl, ho0, ho1, hb⟩; refine ⟨_, rfl, ?_⟩; have n0_ := am (Kd.R_elder' (pr HO_z25000) (Kd.R_base ho0) hb); have n1_ := am (Kd.R_elder' (pr HO_z25001) (Kd.R_base ho1) hb); have n2_ := am (Kd.R_lower (Kd.R_new' ho0 (Kd.R_lt (pr HO_z25000))) (below_size (by repeat first | (with_reducible first | exact HB.out | apply ba | apply bn | apply bd | refine bs (by assumption) ?_) | exact HB.out))); have n3_ := am (Kd.R_lower (Kd.R_new' ho1 (Kd.R_lt (pr HO_z25001))) (below_size (by repeat first | (with_reducible first | exact HB.out | apply ba | apply bn | apply bd | refine bs (by assumption) ?_) | exact HB.out))); have n4_ := am (bkB (pk BKz1) hb); have n5_ := am (bkB (pk BKz2) hb); have n6_ := am (bkB (pk BKz24) hb); have n7_ := am (below_step (by repeat first | (with_reducible first | exact HB.out | apply ba | apply bn | apply bd | refine bs (by assumption) ?_) | exact HB.out) hb); clear HO_z25000; clear HO_z25001; clear BKz1; clear BKz2; clear BKz24; clear HB; have HO_z25000 := n0_; have HO_z25001 := n1_; have HOz37 := n2_; have HOz40 := n3_; have BKz1 := n4_; have BKz2 := n5_; have BKz24 := n6_; have HB := n7_; clear n0_ n1_ n2_ n3_ n4_ n5_ n6_ n7_; obtain ⟨Ao60, co60, eo60⟩ := Kd.R_slice HOz37.out; subst eo60; obtain ⟨hcz61_0, hcz61_1⟩ := bc2 BKz2; obtain ⟨hfz61_0, hfz61_1⟩ := bf2 BKz2; obtain ⟨Ao62, co62, eo62⟩ := Kd.R_slice HOz40.out; subst eo62))
  refine bodyPost_ret (results_ct rfl _ _ gbz2 30 #[.slice Ao60 tz35.length co60, .slice Ao62 tz38.length co62] (0, 0) _ rfl (by (with_reducible repeat (first | refine blk_drewN ?_ _ | refine bkD ?_ | refine bkA ?_ _)); apply bp2; exact pk BKz2) Try.underlying30 rfl (by kernel_rfl)) rfl ?_
  exact ⟨_, _, by first | rfl | (simp <;> rfl) | (simp [*] <;> rfl), by (with_reducible repeat first | apply ra | apply rn | apply rd); exact Kd.R_mono (rf2 (Kd.R_types HOz37.out BKz2.out (by decide)) (fun _ hk => hk.2)) (fun _ hk => trivial), by (with_reducible repeat first | apply ra | apply rn | apply rd); exact Kd.R_mono (rf2 (Kd.R_types HOz40.out BKz2.out (by decide)) (fun _ hk => hk.2)) (fun _ hk => trivial), by repeat first | (with_reducible first | exact HB.out | apply ba | apply bn | apply bd | refine bs (by assumption) ?_) | exact HB.out⟩
 rw [if_neg c51] at H
 have c51b0 : decide (3000 ≤ (xz25001_2.length : Int)) = false := decide_eq_false c51
 have c51b1 : decide (3000 ≤ xz25001_2.length) = false := decide_eq_false (by omega)
 clear c51
 by_cases c63 : xz25001_2.length < 4398046511104
 rotate_left
 ·rw [if_neg c63] at H
  exact absurd H (by simp)
 rw [if_pos c63] at H
 have LMc63 := Aside0.mk c63
 clear c63
 obtain ⟨yz42, hyz42⟩ : ∃ y_ : List (S24), y_ = (xz25001_2 ++ [(⟨false, (rd_T24 l1 x8_2).f1, (rd_T24 l1 x8_2).f2⟩ : S24)]) := ⟨_, rfl⟩
 replace H : (columbariumref14_Do.l1 k2 l1 (wrap64 (x8_2 + 1)) l0_0 l0_1 xz25000_2 yz42) = some (r1, r2, r3) := by first | (rw [hyz42]; with_reducible exact H) | (have H2_ := (Option.bind_some _ _).symm.trans H; rw [hyz42]; with_reducible exact H2_) | (have H2_ := (Option.bind_some _ _).symm.trans H; with_reducible exact H2_) | with_reducible exact H | (rw [hyz42]; exact H) | exact H
 have Nyz42 := am hyz42
 clear hyz42
 have H' := am H
 clear H
 have pz25 : 0 ≤ (x8_2 : Int) := of_decide_eq_true (by first | (with_reducible assumption) | assumption)
 have qz25 : x8_2 < (l1.length : Int) := of_decide_eq_true (by first | (with_reducible assumption) | assumption)
 obtain ⟨adz25, ez25, hxz25_0, hxz25_1, hxz25_2⟩ := at_T24 HR1.out x8_2 pz25 qz25
 (try rw [← Nbq37.out] at hxz25_0); (try rw [← Nbq37.out] at hwz25_0)
 cases ez25
 replace hxz25_0 := (HB.out.cell (World.block_lt_of_cell? w _ hxz25_0)).trans hxz25_0
 replace hxz25_1 := (HB.out.cell (World.block_lt_of_cell? w _ hxz25_1)).trans hxz25_1
 replace hxz25_2 := (HB.out.cell (World.block_lt_of_cell? w _ hxz25_2)).trans hxz25_2
 replace pz25 := eq_true pz25
 replace qz25 := eq_true qz25
 have hnb64 := NBz24_z1.out
 have hnc64 := NBz1_z24.out
 have hnb65 := NBz24_z2.out
 have hnc65 := NBz2_z24.out
 obtain ⟨hcz66_0, hcz66_1⟩ := bc2 BKz24
 obtain ⟨hfz66_0, hfz66_1⟩ := bf2 BKz24
 obtain ⟨Ao67, co67, eo67⟩ := Kd.R_slice HO_z25001.out
 subst eo67
 try go_wp2
 have n0_ := am (Kd.R_drew HO_z25000.out)
 have n1_ := am (Kd.R_drew HO_z25001.out)
 have n2_ := am (bkD BKz1.out)
 have n3_ := am (bkD BKz2.out)
 have n4_ := am (bkD BKz24.out)
 have n5_ := am (below_drew1 HB.out)
 clear HO_z25000 HO_z25001 BKz1 BKz2 BKz24 HB; have HO_z25000 := n0_; have HO_z25001 := n1_; have BKz1 := n2_; have BKz2 := n3_; have BKz24 := n4_; have HB := n5_; clear n0_ n1_ n2_ n3_ n4_ n5_
 have pz41 : 0 ≤ (x8_2 : Int) := of_decide_eq_true (by first | (with_reducible assumption) | assumption)
 have qz41 : x8_2 < (l1.length : Int) := of_decide_eq_true (by first | (with_reducible assumption) | assumption)
 obtain ⟨adz41, ez41, hxz41_0, hxz41_1, hxz41_2⟩ := at_T24 HR1.out x8_2 pz41 qz41
 have hwz41_2 := hxz41_2
 have hwz41_1 := hxz41_1
 have hwz41_0 := hxz41_0
 (try rw [← Nbq37.out] at hxz41_0); (try rw [← Nbq37.out] at hwz41_0)
 obtain rfl : adz25 = adz41 := (by injection ez41)
 replace hxz41_0 := (HB.out.cell (World.block_lt_of_cell? w _ hxz41_0)).trans hxz41_0
 replace hxz41_1 := (HB.out.cell (World.block_lt_of_cell? w _ hxz41_1)).trans hxz41_1
 replace hxz41_2 := (HB.out.cell (World.block_lt_of_cell? w _ hxz41_2)).trans hxz41_2
 replace pz41 := eq_true pz41
 replace qz41 := eq_true qz41
 refine start_ (n := 10) (S := fun w' => w'.cell? ⟨gbz24, 0, none⟩ = some (uz25000) ∧ w'.cell? ⟨gbz24, 1, none⟩ = some (.slice Ao67 xz25001_2.length co67) ∧ w'.cell? (adz25.add ((x8_2).toNat * 3)) = some (.bool (false)) ∧ w'.cell? ⟨(adz25.add ((x8_2).toNat * 3)).block, (adz25.add ((x8_2).toNat * 3)).off + 1, none⟩ = some (.int .i64 ((rd_T24 l1 x8_2).f1)) ∧ w'.cell? ⟨(adz25.add ((x8_2).toNat * 3)).block, (adz25.add ((x8_2).toNat * 3)).off + 2, none⟩ = some (.string ((rd_T24 l1 x8_2).f2))) (ds := [9]) #[false, false, false, false, false, false, false, false, false, false] (by kernel_rfl) rfl rfl ⟨(blk_cell BKz24.out 0).trans rfl, (blk_cell BKz24.out 1).trans rfl, ((HB.out.cell (World.block_lt_of_cell? w _ hwz41_0)).trans hwz41_0), ((HB.out.cell (World.block_lt_of_cell? w _ hwz41_1)).trans hwz41_1), ((HB.out.cell (World.block_lt_of_cell? w _ hwz41_2)).trans hwz41_2)⟩ (fun hHeld => ?_); refine with_tabW columbariumref14_Do.tab16 columbariumref14_Do.bits16 (fun HT_ HW_ => ?_)
 generalize wr.drew = w68 at HO_z25000 HO_z25001 BKz1 BKz2 BKz24 HB hxz41_0 hxz41_1 hxz41_2 hHeld ⊢
 refine pu_ 0 (some 56) HT_ rfl rfl (.inl ⟨by rfl, by intro w'; go_simp; with_reducible rfl⟩) (by simp only [Act.put, sa_, s0_, s1_, i64_w, i32_w]; rfl) ?_
 refine pu_ 2 (some 58) HT_ rfl rfl (.inl ⟨by rfl, by intro w'; go_simp; with_reducible rfl⟩) (by simp only [Act.put, sa_, s0_, s1_, i64_w, i32_w]; rfl) ?_
 refine pu_ 3 (some 59) HT_ rfl rfl (.inl ⟨by rfl, by intro w'; go_simp; with_reducible rfl⟩) (by simp only [Act.put, sa_, s0_, s1_, i64_w, i32_w]; rfl) ?_
 refine pu_ 4 (some 60) HT_ rfl rfl (.inl ⟨by rfl, by intro w'; go_simp; with_reducible rfl⟩) (by simp only [Act.put, sa_, s0_, s1_, i64_w, i32_w]; rfl) ?_
 refine tk_ 1 (some 57) HT_ HW_ rfl rfl (.inl ⟨by rfl, by rintro w' ⟨s0, s1, s2, s3, s4⟩; go_simp; with_reducible rfl⟩) hHeld (by simp only [Act.put, sa_, s0_, s1_, i64_w, i32_w]; rfl) ?_
 refine tk_ 5 (some 61) HT_ HW_ rfl rfl (.inl ⟨by rfl, by rintro w' ⟨s0, s1, s2, s3, s4⟩; go_simp; with_reducible rfl⟩) hHeld (by simp only [Act.put, sa_, s0_, s1_, i64_w, i32_w]; rfl) ?_
 refine on_ 6 (some 62) HT_ rfl rfl (fun K hK => ?_)
 refine value_ (w1 := ?_) (v := ?_) (by rfl) rfl ?_ ?_
 rotate_left 2
 ·go_simp
  constructor
  rotate_left
  ·rfl
  rfl
 refine hK.out _ _ ⟨(blk_cell (bkA BKz24.out _) 0).trans rfl, (blk_cell (bkA BKz24.out _) 1).trans rfl, (World.cell?_alloc_lt _ _ _ (World.block_lt_of_cell? _ _ (((HB.out.cell (World.block_lt_of_cell? w _ hwz41_0)).trans hwz41_0)))).trans (((HB.out.cell (World.block_lt_of_cell? w _ hwz41_0)).trans hwz41_0)), (World.cell?_alloc_lt _ _ _ (World.block_lt_of_cell? _ _ (((HB.out.cell (World.block_lt_of_cell? w _ hwz41_1)).trans hwz41_1)))).trans (((HB.out.cell (World.block_lt_of_cell? w _ hwz41_1)).trans hwz41_1)), (World.cell?_alloc_lt _ _ _ (World.block_lt_of_cell? _ _ (((HB.out.cell (World.block_lt_of_cell? w _ hwz41_2)).trans hwz41_2)))).trans (((HB.out.cell (World.block_lt_of_cell? w _ hwz41_2)).trans hwz41_2))⟩ (fun hHeld => ?_)
 clear hK K
 refine norm_ (by show Act.put _ (some 62) _ = _; simp only [Act.put, sa_, s0_, s1_, i64_w, i32_w]; rfl) ?_
 refine on_ 7 (some 63) HT_ rfl rfl (fun K hK => ?_)
 refine Kd.R_append_step k24 (w0 := w) w.heap.size (by rfl) (.tmp 57) (.tmp 62) 28 24 (.agg #[(.bool false), (.int .i64 0), (.string ⟨#[]⟩)]) 32 rfl Try.underlying28 info24 rfl (by decide) (by omega) (.slice Ao67 xz25001_2.length co67) xz25001_2 (⟨false, (rd_T24 l1 x8_2).f1, (rd_T24 l1 x8_2).f2⟩ : S24) [.bool false, .int .i64 ((rd_T24 l1 x8_2).f1), .string ((rd_T24 l1 x8_2).f2)] (fun _ => True) (fun _ => False) rfl rfl ?aP (fun _ hk => hk.elim) ?aF ?aO ?aB ?aS ?aL ?_
 (case aP => exact k24_mkM _ _ _ (⟨false, (rd_T24 l1 x8_2).f1, (rd_T24 l1 x8_2).f2⟩ : S24))
 (case aB => exact (by repeat first | (with_reducible first | exact HB.out | apply ba | apply bn | apply bd | refine bs (by assumption) ?_) | exact HB.out))
 (case aF => exact (fun _ _ => trivial))
 (case aO => exact (pr HO_z25001))
 (case aS => exact (below_size (by repeat first | (with_reducible first | exact HB.out | apply ba | apply bn | apply bd | refine bs (by assumption) ?_) | exact HB.out)))
 (case aL => have := LMc63.out; omega)
 intro vz43 w69 ho hb hg hat
 rw [← Nyz42.out] at ho
 have n0_ := am (Kd.R_over' (pr HO_z25000) (Kd.R_typed (pr HO_z25001)) (by decide) hg)
 have n1_ := am (blk_grown (pk BKz1) hg (Kd.R_ne HO_z25001.out BKz1.out (by decide)))
 have n2_ := am (blk_grown (pk BKz2) hg (Kd.R_ne HO_z25001.out BKz2.out (by decide)))
 have n3_ := am (blk_grown (pk BKz24) hg (Kd.R_ne HO_z25001.out BKz24.out (by decide)))
 have n4_ := am (hb)
 have n5_ := am (ho)
 clear HO_z25000 BKz1 BKz2 BKz24 HB HO_z25001; have HO_z25000 := n0_; have BKz1 := n1_; have BKz2 := n2_; have BKz24 := n3_; have HB := n4_; have HOz44 := n5_; clear n0_ n1_ n2_ n3_ n4_ n5_; clear ho hb hg hat
 obtain ⟨Ao70, co70, eo70⟩ := Kd.R_slice HOz44.out
 (first | subst eo70 | (injection eo70 with f1_ f2_ f3_; have f4_ := f1_.symm; have f5_ := f3_.symm; clear f1_ f2_ f3_; subst f4_; subst f5_))
 refine hK.out _ _ ⟨(blk_cell BKz24.out 0).trans rfl, (blk_cell BKz24.out 1).trans rfl, ((HB.out.cell (World.block_lt_of_cell? w _ hwz41_0)).trans hwz41_0), ((HB.out.cell (World.block_lt_of_cell? w _ hwz41_1)).trans hwz41_1), ((HB.out.cell (World.block_lt_of_cell? w _ hwz41_2)).trans hwz41_2)⟩ (fun hHeld => ?_)
 clear hK K
 refine norm_ (by show Act.put _ (some 63) _ = _; simp only [Act.put, sa_, s0_, s1_, i64_w, i32_w]; rfl) ?_
 refine pu_ 8 (some 64) HT_ rfl rfl (.inl ⟨by rfl, by intro w'; go_simp; with_reducible rfl⟩) (by simp only [Act.put, sa_, s0_, s1_, i64_w, i32_w]; rfl) ?_
 refine la_ 9 none HT_ rfl rfl (fun K hK => ?_)
 have hs71 : w69.cell? ⟨gbz24, 1, none⟩ = some (.slice Ao67 xz25001_2.length co67) := (blk_cell BKz24.out 1).trans rfl
 have hfs71 := blk_frozen BKz24.out 1
 have := NBz1_z24.out
 have := NBz2_z24.out
 have := NBz24_z1.out
 have := NBz24_z2.out
 refine skip_ (by rfl) rfl (by go_simp; rfl) ?_
 refine hK.out _ _ ?_
 clear hK K
 refine done_ (done_of HT_.out (by kernel_rfl)) ?_
 try go_wp2
 go_roundg k2
 case measure => have := HK1.out; have := HK2.out; omega
 case rel => exact ⟨(wrap64 (x8_2 + 1)), (xz25000_2), (yz42), (uz25000), (.slice Ao70 yz42.length co70), (by first | rfl | (simp; done) | (simp [*]; done)), H', ⟨by have := HK1.out; have := HK2.out; omega⟩, ⟨by (with_reducible repeat first | apply ra | apply rn | apply rd); exact Kd.R_mono (Kd.R_far (p := ⟨gbz24, 1, none⟩) (Kd.R_types HO_z25000.out BKz24.out (by decide)) (fun _ hk => hk.2) (.slice Ao70 yz42.length co70)) (fun _ hk => trivial)⟩, ⟨by (with_reducible repeat first | apply ra | apply rn | apply rd); exact Kd.R_mono (Kd.R_far (p := ⟨gbz24, 1, none⟩) (Kd.R_types HOz44.out BKz24.out (by decide)) (fun _ hk => hk.2) (.slice Ao70 yz42.length co70)) (fun _ hk => trivial)⟩, ⟨by (with_reducible repeat (first | refine blk_drewN ?_ _ | refine bkD ?_ | refine bkA ?_ _)); refine blk_far ?_ NBz1_z24.out _; (with_reducible repeat (first | refine blk_drewN ?_ _ | refine bkD ?_ | refine bkA ?_ _)); exact BKz1.out⟩, ⟨by (with_reducible repeat (first | refine blk_drewN ?_ _ | refine bkD ?_ | refine bkA ?_ _)); refine blk_far ?_ NBz2_z24.out _; (with_reducible repeat (first | refine blk_drewN ?_ _ | refine bkD ?_ | refine bkA ?_ _)); exact BKz2.out⟩, ⟨by (with_reducible repeat (first | refine blk_drewN ?_ _ | refine bkD ?_ | refine bkA ?_ _)); refine blk_put (cs := #[uz25000, .slice Ao67 xz25001_2.length co67]) ?_ 1 _ rfl; (with_reducible repeat (first | refine blk_drewN ?_ _ | refine bkD ?_ | refine bkA ?_ _)); exact BKz24.out⟩, ⟨by repeat first | (with_reducible first | exact HB.out | apply ba | apply bn | apply bd | refine bs (by assumption) ?_) | exact HB.out⟩⟩
end Go.Proofs.Ytcfinlmocgbnbaa.Pr
end
section
namespace Go.Proofs.Ytcfinlmocgbnbaa.Pr
open Go.Proofs.Ytcfinlmocgbnbaa.Sq Go.RowKit Go.Proofs.YtcfinlmocgbnbaaW.PrintWords Go.Proofs.YtcfinlmocgbnbaaW.PrintLast Go.Proofs.YtcfinlmocgbnbaaW.PrintMore
attribute [local go_sem] max2_int min2_int max_two min_two max_three min_three max_four min_four
set_option linter.unusedVariables false
set_option linter.unusedSimpArgs false
mutual
def columbariumref14_New.j0 : Nat → Int → Bool → Option (List ByteArray × (List (S24)) × Int)
 | 0, _, _ => none
 | k + 1, x0, x11 => if x11 = true then (some (([] : List ByteArray), ([] : List (S24)), 1)) else (columbariumref14_New.l0 k x0 0 ([] : List ByteArray))
def columbariumref14_New.l0 : Nat → Int → Int → List ByteArray → Option (List ByteArray × (List (S24)) × Int)
 | 0, _, _, _ => none
 | k + 1, x0, x5, xz3000 => if x5 < x0 then (if 64 ≤ 281474976710656 then (if xz3000.length < 8796093022208 then (columbariumref14_New.l0 k x0 (wrap64 (x5 + 1)) (xz3000 ++ [strOfNums (List.replicate 64 0)])) else (none)) else (none)) else (some (xz3000, ([] : List (S24)), 0))
end
def columbariumref14_New.f (k : Nat) (a0 : Int) : Option (List ByteArray × (List (S24)) × Int) := if a0 < 1 then (columbariumref14_New.j0 k a0 true) else (columbariumref14_New.j0 k a0 (decide (a0 > 400)))
def columbariumref14_New.T7 : Bool × List (List Nat × List Nat) := (true, [([], []), ([0], [0]), ([], []), ([2], [2]), ([3], [3]), ([1, 4], [1, 4]), ([0, 1, 2, 3, 4, 5], []), ([6, 5, 5, 0, 1, 2, 3, 4, 5], [5, 6])])
def columbariumref14_New.B7 : List Nat := [0, 1, 0, 4, 12, 31, 63, 127]
theorem columbariumref14_New.tab7 : rtab .any (opsOf Try.f14 7) = columbariumref14_New.T7 := by kernel_rfl
theorem columbariumref14_New.bits7 : waitsOk columbariumref14_New.T7.2 columbariumref14_New.B7 = true := by kernel_rfl
set_option maxHeartbeats 8000000 in
set_option maxRecDepth 100000 in
theorem columbariumref14_New.calls (k : Nat) (a0 : Int) (r1 : List ByteArray) (r2 : List (S24)) (r3 : Int) (w : World) (h : columbariumref14_New.f k a0 = some (r1, r2, r3)) :
  Calls Try.prog 14 #[.int .i64 a0] w fun e w' => ∃ v0_ v1_ : Value, e = .returned (.tuple #[.agg #[v0_, v1_], .int .i64 r3]) ∧ Kd.R Kd.string 9 w' w.heap.size (fun _ => True) v0_ r1 ∧ Kd.R k24 24 w' w.heap.size (fun _ => True) v1_ r2 ∧ Below w.heap.size w w' := by
 have hu30 := Try.underlying30
 have HB := am (Below.refl w.heap.size w)
 have H : (if a0 < 1 then (columbariumref14_New.j0 k a0 true) else (columbariumref14_New.j0 k a0 (decide (a0 > 400)))) = some (r1, r2, r3) := h
 clear h
 have HC2 := am H
 clear H
 go_enter Try.func14, Try.ntmps14
 go_upto_region 1 with (first | ((with_reducible refine gate_dst (N := 2) rfl ?_); refine box_event ?hg (N := 2) ?hd (cs := #[.slice none 0 0, .slice none 0 0]) (t := 30) ?hr ?_; (case hd => rfl); (case hg => rfl); (case hr => first | (go_simp; done) | (go_simp; rfl)); intro gbz1 hg w3 hbox hb; have n0_ := am (below_step (pb HB) hb); have n1_ := am (hbox); have n2_ := ge_ hg (pb HB); have n3_ := ge_ hg (pb HB); clear HB; have HB := n0_; have BKz1 := n1_; have GWz1 := n2_; have GEz1 := n3_; clear n0_ n1_ n2_ n3_; clear hb hbox hg))
 (try simp only [Act.put, List.setIfInBounds_toArray, List.set_cons_zero, List.set_cons_succ])
 go_cut [11] (fun v11 wc => ∃ (kq : Nat) (x11_1 : Bool), v11 = .bool x11_1 ∧ Aside0 (columbariumref14_New.j0 kq a0 x11_1 = some (r1, r2, r3)) ∧ Aside0 (kq ≤ k) ∧ Aside0 (wc.heap[gbz1]? = some (.cells #[(.slice none 0 0), (.slice none 0 0)] 30 (0, 0))) ∧ Aside0 (Below w.heap.size w wc))
 case first =>
  have H := HC2.out
  clear HC2
  by_cases c4 : a0 < 1
  ·rw [if_pos c4] at H
   have c4b0 : decide (a0 < 1) = true := decide_eq_true c4
   clear c4
   (first | rw [c4b0] | rw [c4b1] | (simp only [i64_w, i32_w]; rw [c4b0]) | skip)
   have H' := am H
   clear H
   go_wp2
   go_meet
   case rel => exact ⟨_, (true), (by first | rfl | (simp; done) | (simp [*]; done)), H', ⟨by first | omega | exact Nat.le_refl _⟩, ⟨by (with_reducible repeat (first | refine blk_drewN ?_ _ | refine bkD ?_ | refine bkA ?_ _)); exact BKz1.out⟩, ⟨by repeat first | (with_reducible first | exact HB.out | apply ba | apply bn | apply bd | refine bs (by assumption) ?_) | exact HB.out⟩⟩
  rw [if_neg c4] at H
  have c4b0 : decide (a0 < 1) = false := decide_eq_false c4
  clear c4
  (first | rw [c4b0] | rw [c4b1] | (simp only [i64_w, i32_w]; rw [c4b0]) | skip)
  have H' := am H
  clear H
  go_wp2
  go_meet
  case rel => exact ⟨_, (decide (a0 > 400)), (by first | rfl | (simp; done) | (simp [*]; done)), H', ⟨by first | omega | exact Nat.le_refl _⟩, ⟨by (with_reducible repeat (first | refine blk_drewN ?_ _ | refine bkD ?_ | refine bkA ?_ _)); exact BKz1.out⟩, ⟨by repeat first | (with_reducible first | exact HB.out | apply ba | apply bn | apply bd | refine bs (by assumption) ?_) | exact HB.out⟩⟩
 clear HC2
 try clear c1
 try clear p2
 try clear c4
 try clear c4b0
 try clear c4b1
 obtain ⟨kq, x11_1, rfl, HA, HJ1, BKz1, HB⟩ := hcut
 cases kq with
 | zero => exact absurd HA.out (by simp [columbariumref14_New.j0])
 | succ kj1 => ?_
 have H := HA.out
 clear HA
 simp only [columbariumref14_New.j0] at H
 by_cases c5 : x11_1 = true
 ·subst c5
  have H1 : (some (([] : List ByteArray), ([] : List (S24)), 1)) = some (r1, r2, r3) := by rw [if_pos rfl] at H; exact H
  clear H
  have H := H1
  clear H1
  simp only [Option.some.injEq, Prod.mk.injEq] at H
  obtain ⟨rfl, rfl, rfl⟩ := H
  obtain ⟨hcz6_0, hcz6_1⟩ := bc2 BKz1
  obtain ⟨hfz6_0, hfz6_1⟩ := bf2 BKz1
  go_wp2
  refine bodyPost_ret (results_ct rfl _ _ gbz1 30 #[.slice none 0 0, .slice none 0 0] (0, 0) _ rfl (by (with_reducible repeat (first | refine blk_drewN ?_ _ | refine bkD ?_ | refine bkA ?_ _)); apply bp2; exact pk BKz1) Try.underlying30 rfl (by kernel_rfl)) rfl ?_
  exact ⟨_, _, by first | rfl | (simp <;> rfl) | (simp [*] <;> rfl), by exact Kd.R_nil _ _ _ _ _, by exact Kd.R_nil _ _ _ _ _, by repeat first | (with_reducible first | exact HB.out | apply ba | apply bn | apply bd | refine bs (by assumption) ?_) | exact HB.out⟩
 replace c5 := Bool.eq_false_iff.mpr c5
 subst c5
 have H1 : (columbariumref14_New.l0 kj1 a0 0 ([] : List ByteArray)) = some (r1, r2, r3) := by rw [if_neg (show ¬ (false = true) by decide)] at H; exact H
 clear H
 have H := H1
 clear H1
 have H' := am H
 clear H
 go_wp2_with (first | ((with_reducible refine gate_dst (N := 4) rfl ?_); refine box_event ?hg (N := 4) ?hd (cs := #[.slice none 0 0, .slice none 0 0]) (t := 30) ?hr ?_; (case hd => rfl); (case hg => rfl); (case hr => first | (go_simp; done) | (go_simp; rfl)); intro gbz2 hg w7 hbox hb; have n0_ := am (bkB (pk BKz1) hb); have n1_ := am (below_step (by repeat first | (with_reducible first | exact HB.out | apply ba | apply bn | apply bd | refine bs (by assumption) ?_) | exact HB.out) hb); have n2_ := am (hbox); have n3_ := ge_ hg (by repeat first | (with_reducible first | exact HB.out | apply ba | apply bn | apply bd | refine bs (by assumption) ?_) | exact HB.out); have n4_ := ge_ hg (by repeat first | (with_reducible first | exact HB.out | apply ba | apply bn | apply bd | refine bs (by assumption) ?_) | exact HB.out); have n5_ := nl_ hg BKz1; have n6_ := ng_ hg BKz1; clear BKz1; clear HB; have BKz1 := n0_; have HB := n1_; have BKz2 := n2_; have GWz2 := n3_; have GEz2 := n4_; have NBz1_z2 := n5_; have NBz2_z1 := n6_; clear n0_ n1_ n2_ n3_ n4_ n5_ n6_; clear hb hbox hg))
 go_loopg [5] kj1 (fun kq v5 w' => ∃ (x5_2 : Int) (xz3000_2 : List ByteArray) (uz3000 : Value), v5 = .int .i64 x5_2 ∧ Aside0 (columbariumref14_New.l0 kq a0 x5_2 xz3000_2 = some (r1, r2, r3)) ∧ Aside0 (kq ≤ kj1) ∧ Aside0 (Kd.R Kd.string 9 w' w.heap.size (fun _ => True) uz3000 xz3000_2) ∧ Aside0 (w'.heap[gbz1]? = some (.cells #[(.slice none 0 0), (.slice none 0 0)] 30 (0, 0))) ∧ Aside0 (w'.heap[gbz2]? = some (.cells #[uz3000, (.slice none 0 0)] 30 (0, 0))) ∧ Aside0 (Below w.heap.size w w'))
 case atStart => exact ⟨(0), (([] : List ByteArray)), (.slice none 0 0), (by first | rfl | (simp; done) | (simp [*]; done)), H', ⟨Nat.le_refl _⟩, ⟨by exact Kd.R_nil _ _ _ _ _⟩, ⟨by (with_reducible repeat (first | refine blk_drewN ?_ _ | refine bkD ?_ | refine bkA ?_ _)); exact BKz1.out⟩, ⟨by (with_reducible repeat (first | refine blk_drewN ?_ _ | refine bkD ?_ | refine bkA ?_ _)); exact BKz2.out⟩, ⟨by repeat first | (with_reducible first | exact HB.out | apply ba | apply bn | apply bd | refine bs (by assumption) ?_) | exact HB.out⟩⟩
 clear H'
 try clear c1
 try clear p2
 try clear c4
 try clear c4b0
 try clear c4b1
 try clear c5
 try clear hcz6_0
 try clear hcz6_1
 try clear hfz6_0
 try clear hfz6_1
 try clear p2
 obtain ⟨x5_2, xz3000_2, uz3000, rfl, HA, HK2, HO_z3000, BKz1, BKz2, HB⟩ := hrel
 cases gk with
 | zero => exact absurd HA.out (by simp [columbariumref14_New.l0])
 | succ k2 => ?_
 have H := HA.out
 clear HA
 simp only [columbariumref14_New.l0] at H
 by_cases c8 : x5_2 < a0
 rotate_left
 ·rw [if_neg c8] at H
  have c8b0 : decide (x5_2 < a0) = false := decide_eq_false c8
  clear c8
  simp only [Option.some.injEq, Prod.mk.injEq] at H
  obtain ⟨rfl, rfl, rfl⟩ := H
  have hnb18 := NBz2_z1.out
  have hnc18 := NBz1_z2.out
  obtain ⟨hcz19_0, hcz19_1⟩ := bc2 BKz2
  obtain ⟨hfz19_0, hfz19_1⟩ := bf2 BKz2
  obtain ⟨Ao20, co20, eo20⟩ := Kd.R_slice HO_z3000.out
  subst eo20
  obtain ⟨hcz21_0, hcz21_1⟩ := bc2 BKz1
  obtain ⟨hfz21_0, hfz21_1⟩ := bf2 BKz1
  go_wp2
  refine bodyPost_ret (results_ct rfl _ _ gbz1 30 #[.slice Ao20 xz3000_2.length co20, .slice none 0 0] (0, 0) _ rfl (by (with_reducible repeat (first | refine blk_drewN ?_ _ | refine bkD ?_ | refine bkA ?_ _)); apply bp2; exact pk BKz1) Try.underlying30 rfl (by kernel_rfl)) rfl ?_
  exact ⟨_, _, by first | rfl | (simp <;> rfl) | (simp [*] <;> rfl), by (with_reducible repeat first | apply ra | apply rn | apply rd); exact Kd.R_mono (rf2 (Kd.R_types HO_z3000.out BKz1.out (by decide)) (fun _ hk => hk.2)) (fun _ hk => trivial), by exact Kd.R_nil _ _ _ _ _, by repeat first | (with_reducible first | exact HB.out | apply ba | apply bn | apply bd | refine bs (by assumption) ?_) | exact HB.out⟩
 rw [if_pos c8] at H
 have c8b0 : decide (x5_2 < a0) = true := decide_eq_true c8
 clear c8
 by_cases c9 : 64 ≤ 281474976710656
 rotate_left
 ·rw [if_neg c9] at H
  exact absurd H (by simp)
 rw [if_pos c9] at H
 have c9b0 := eq_true c9
 have c9b1 : decide (64 ≤ 281474976710656) = true := decide_eq_true c9
 clear c9
 obtain ⟨yz3, hyz3⟩ : ∃ y_ : List Int, y_ = (List.replicate 64 0) := ⟨_, rfl⟩
 replace H : (if xz3000_2.length < 8796093022208 then (columbariumref14_New.l0 k2 a0 (wrap64 (x5_2 + 1)) (xz3000_2 ++ [strOfNums yz3])) else (none)) = some (r1, r2, r3) := by first | (rw [hyz3]; with_reducible exact H) | (have H2_ := (Option.bind_some _ _).symm.trans H; rw [hyz3]; with_reducible exact H2_) | (have H2_ := (Option.bind_some _ _).symm.trans H; with_reducible exact H2_) | with_reducible exact H | (rw [hyz3]; exact H) | exact H
 have Nyz3 := am hyz3
 clear hyz3
 by_cases c10 : xz3000_2.length < 8796093022208
 rotate_left
 ·rw [if_neg c10] at H
  exact absurd H (by simp)
 rw [if_pos c10] at H
 have LMc10 := Aside0.mk c10
 clear c10
 obtain ⟨yz6, hyz6⟩ : ∃ y_ : List ByteArray, y_ = (xz3000_2 ++ [strOfNums yz3]) := ⟨_, rfl⟩
 replace H : (columbariumref14_New.l0 k2 a0 (wrap64 (x5_2 + 1)) yz6) = some (r1, r2, r3) := by first | (rw [hyz6]; with_reducible exact H) | (have H2_ := (Option.bind_some _ _).symm.trans H; rw [hyz6]; with_reducible exact H2_) | (have H2_ := (Option.bind_some _ _).symm.trans H; with_reducible exact H2_) | with_reducible exact H | (rw [hyz6]; exact H) | exact H
 have Nyz6 := am hyz6
 clear hyz6
 have H' := am H
 clear H
 try go_wp2
 have n0_ := am (Kd.R_drew HO_z3000.out)
 have n1_ := am (bkD BKz1.out)
 have n2_ := am (bkD BKz2.out)
 have n3_ := am (below_drew1 HB.out)
 clear HO_z3000 BKz1 BKz2 HB; have HO_z3000 := n0_; have BKz1 := n1_; have BKz2 := n2_; have HB := n3_; clear n0_ n1_ n2_ n3_
 refine start_ (n := 8) (S := fun w' => w'.cell? ⟨gbz2, 0, none⟩ = some (uz3000) ∧ w'.cell? ⟨gbz2, 1, none⟩ = some (.slice none 0 0)) (ds := [7]) #[false, false, false, false, false, false, false, false] (by kernel_rfl) rfl rfl (bc2 BKz2) (fun hHeld => ?_); refine with_tabW columbariumref14_New.tab7 columbariumref14_New.bits7 (fun HT_ HW_ => ?_)
 generalize wr.drew = w11 at HO_z3000 BKz1 BKz2 HB hHeld ⊢
 refine pu_ 0 (some 18) HT_ rfl rfl (.inl ⟨by rfl, by intro w'; go_simp; with_reducible rfl⟩) (by simp only [Act.put, sa_, s0_, s1_, i64_w, i32_w]; rfl) ?_
 refine tk_ 1 (some 19) HT_ HW_ rfl rfl (.inl ⟨by rfl, by rintro w' ⟨s0, s1⟩; go_simp; with_reducible rfl⟩) hHeld (by simp only [Act.put, sa_, s0_, s1_, i64_w, i32_w]; rfl) ?_
 refine on_ 2 (some 20) HT_ rfl rfl (fun K hK => ?_)
 refine Kd.R_make_step (Kd.int .u8) _ 5 (by rfl) (N := 20) rfl 49 _ _ rfl 64 rfl rfl Try.underlying49 (.int .u8 0) 1 info5 rfl (by decide) (by omega) 0 (ok := fun _ => True) (okp := fun _ => True) rfl (fun _ hk => hk) trivial (by omega) (by omega) (Below.refl _ _) (Nat.le_refl _) ?_
 intro vz4 w12 ho13 hb hg_ hnew_
 clear hg_ hnew_
 (first | rw [← Nyz3.out] at ho13 | (simp only [Int.reduceToNat] at ho13; rw [← Nyz3.out] at ho13))
 have n0_ := am (Kd.R_below (pr HO_z3000) hb)
 have n1_ := am (Kd.R_lower ho13 (below_size (by repeat first | (with_reducible first | exact HB.out | apply ba | apply bn | apply bd | refine bs (by assumption) ?_) | exact HB.out)))
 have n2_ := am (bkB (pk BKz1) hb)
 have n3_ := am (bkB (pk BKz2) hb)
 have n4_ := am (below_step (by repeat first | (with_reducible first | exact HB.out | apply ba | apply bn | apply bd | refine bs (by assumption) ?_) | exact HB.out) hb)
 clear HO_z3000 BKz1 BKz2 HB; have HO_z3000 := n0_; have HOz5 := n1_; have BKz1 := n2_; have BKz2 := n3_; have HB := n4_; clear n0_ n1_ n2_ n3_ n4_; clear hb ho13
 refine hK.out _ _ (bc2 BKz2) (fun hHeld => ?_)
 clear hK K
 refine norm_ (by show Act.put _ (some 20) _ = _; simp only [Act.put, sa_, s0_, s1_, i64_w, i32_w]; rfl) ?_
 refine on_ 3 (some 21) HT_ rfl rfl (fun K hK => ?_)
 have hcv14 := own_string (P := Try.prog) Try.underlying49 Try.underlying5 Try.underlying9 (Kd.own_of_R HOz5.out)
 refine value_ (w1 := ?_) (v := ?_) (by rfl) rfl ?_ ?_
 rotate_left 2
 ·go_simp
  constructor
  rotate_left
  ·rfl
  rfl
 clear hcv14
 refine hK.out _ _ (bc2 BKz2) (fun hHeld => ?_)
 clear hK K
 refine norm_ (by show Act.put _ (some 21) _ = _; simp only [Act.put, sa_, s0_, s1_, i64_w, i32_w]; rfl) ?_
 refine on_ 4 (some 22) HT_ rfl rfl (fun K hK => ?_)
 refine value_ (w1 := ?_) (v := ?_) (by rfl) rfl ?_ ?_
 rotate_left 2
 ·go_simp
  constructor
  rotate_left
  ·rfl
  rfl
 refine hK.out _ _ ⟨(blk_cell (bkA BKz2.out _) 0).trans rfl, (blk_cell (bkA BKz2.out _) 1).trans rfl⟩ (fun hHeld => ?_)
 clear hK K
 refine norm_ (by show Act.put _ (some 22) _ = _; simp only [Act.put, sa_, s0_, s1_, i64_w, i32_w]; rfl) ?_
 refine on_ 5 (some 23) HT_ rfl rfl (fun K hK => ?_)
 refine Kd.R_append_step Kd.string (w0 := w) w.heap.size (by rfl) (.tmp 19) (.tmp 22) 27 9 (.string ⟨#[]⟩) 16 rfl Try.underlying27 info9 rfl (by decide) (by omega) uz3000 xz3000_2 (strOfNums yz3) [.string (strOfNums yz3)] (fun _ => True) (fun _ => False) rfl rfl ?aP (fun _ hk => hk.elim) ?aF ?aO ?aB ?aS ?aL ?_
 (case aP => exact rfl)
 (case aB => exact (by repeat first | (with_reducible first | exact HB.out | apply ba | apply bn | apply bd | refine bs (by assumption) ?_) | exact HB.out))
 (case aF => exact (fun _ _ => trivial))
 (case aO => exact (pr HO_z3000))
 (case aS => exact (below_size (by repeat first | (with_reducible first | exact HB.out | apply ba | apply bn | apply bd | refine bs (by assumption) ?_) | exact HB.out)))
 (case aL => have := LMc10.out; omega)
 intro vz7 w15 ho hb hg hat
 rw [← Nyz6.out] at ho
 have n0_ := am (blk_grown (pk BKz1) hg (Kd.R_ne HO_z3000.out BKz1.out (by decide)))
 have n1_ := am (blk_grown (pk BKz2) hg (Kd.R_ne HO_z3000.out BKz2.out (by decide)))
 have n2_ := am (Kd.R_over' (pr HOz5) (Kd.R_typed (pr HO_z3000)) (by decide) hg)
 have n3_ := am (hb)
 have n4_ := am (ho)
 clear BKz1 BKz2 HOz5 HB HO_z3000; have BKz1 := n0_; have BKz2 := n1_; have HOz5 := n2_; have HB := n3_; have HOz8 := n4_; clear n0_ n1_ n2_ n3_ n4_; clear ho hb hg hat
 obtain ⟨Ao16, co16, eo16⟩ := Kd.R_slice HOz8.out
 (first | subst eo16 | (injection eo16 with f1_ f2_ f3_; have f4_ := f1_.symm; have f5_ := f3_.symm; clear f1_ f2_ f3_; subst f4_; subst f5_))
 refine hK.out _ _ (bc2 BKz2) (fun hHeld => ?_)
 clear hK K
 refine norm_ (by show Act.put _ (some 23) _ = _; simp only [Act.put, sa_, s0_, s1_, i64_w, i32_w]; rfl) ?_
 refine pu_ 6 (some 24) HT_ rfl rfl (.inl ⟨by rfl, by intro w'; go_simp; with_reducible rfl⟩) (by simp only [Act.put, sa_, s0_, s1_, i64_w, i32_w]; rfl) ?_
 refine la_ 7 none HT_ rfl rfl (fun K hK => ?_)
 have hs17 : w15.cell? ⟨gbz2, 0, none⟩ = some (uz3000) := (blk_cell BKz2.out 0).trans rfl
 have hfs17 := blk_frozen BKz2.out 0
 have := NBz1_z2.out
 have := NBz2_z1.out
 refine skip_ (by rfl) rfl (by go_simp; rfl) ?_
 refine hK.out _ _ ?_
 clear hK K
 refine done_ (done_of HT_.out (by kernel_rfl)) ?_
 try go_wp2
 go_roundg k2
 case measure => have := HJ1.out; have := HK2.out; omega
 case rel => exact ⟨(wrap64 (x5_2 + 1)), (yz6), (.slice Ao16 yz6.length co16), (by first | rfl | (simp; done) | (simp [*]; done)), H', ⟨by have := HJ1.out; have := HK2.out; omega⟩, ⟨by (with_reducible repeat first | apply ra | apply rn | apply rd); exact Kd.R_mono (rf1 (Kd.R_types HOz8.out BKz2.out (by decide)) (fun _ hk => hk.2)) (fun _ hk => trivial)⟩, ⟨by (with_reducible repeat (first | refine blk_drewN ?_ _ | refine bkD ?_ | refine bkA ?_ _)); refine blk_far ?_ NBz1_z2.out _; (with_reducible repeat (first | refine blk_drewN ?_ _ | refine bkD ?_ | refine bkA ?_ _)); exact BKz1.out⟩, ⟨by (with_reducible repeat (first | refine blk_drewN ?_ _ | refine bkD ?_ | refine bkA ?_ _)); refine blk_put (cs := #[uz3000, .slice none 0 0]) ?_ 0 _ rfl; (with_reducible repeat (first | refine blk_drewN ?_ _ | refine bkD ?_ | refine bkA ?_ _)); exact BKz2.out⟩, ⟨by repeat first | (with_reducible first | exact HB.out | apply ba | apply bn | apply bd | refine bs (by assumption) ?_) | exact HB.out⟩⟩
end Go.Proofs.Ytcfinlmocgbnbaa.Pr
end
section
set_option linter.unusedVariables false
namespace Go.Proofs.Ytcfinlmocgbnbaa.XB
open Go.RowKit Go.Shelf Go.Proofs.YtcfinlmocgbnbaaW.PrintWords
theorem blk_same {w w1 : World} {g : Nat} {o : Obj} (h : w.heap[g]? = some o) (hb : Below w.heap.size w w1) : w1.heap[g]? = some o := (hb.block g (blk_lt h)).trans h
variable {P : Program}
theorem run_loadVar_one (w : World) (g : Nat) (t ty : TypeId) (v : Value) (fr : Nat × Nat) (d : TypeDesc) (hg : w.heap[g]? = some (.cells #[v] t fr))
    (hu : P.underlying ty = some d) (hd : (match d with | .struct _ | .array _ _ => true | _ => false) = false) :
    (loadVar ty ⟨g, 0, none⟩).run P w = .ok v w := by
  have hc : w.cell? ⟨g, 0, none⟩ = some v := by rw [cell_of_row w g 0 #[v] t fr hg]; rfl
  have ha : (isAgg ty).run P w = .ok false w := by
    simp only [isAgg, Sem.run_bind, run_underlying hu, Result.andThen_ok]
    cases d <;> simp_all
  simp only [loadVar, Sem.run_bind, ha, Result.andThen_ok]
  simp [go_sem, hc]
end Go.Proofs.Ytcfinlmocgbnbaa.XB
namespace Go.Proofs.Ytcfinlmocgbnbaa.XB
open Go.RowKit Go.Shelf Go.Proofs.YtcfinlmocgbnbaaW.PrintWords
variable {F : Fence} {n : Nat} {P : Program}
def IterSeq (F : Fence) (n : Nat) (P : Program) (g : Nat) (lb : Array Value) (vals : Nat → Array Value) (N : Nat) (Start : World → Prop) (Tch Kp : World → World → Prop) : Prop :=
  ∀ (l : Nat) (J Jx : Nat → World → Prop) (W : World), Start W → (∀ k A B, J k A → Tch A B → J k B) → (∀ k A B, Jx k A → Tch A B → Jx k B) →
    (∀ k W1, J k W1 → k < N → YieldAt F (n - 1) P l (vals k) W1 fun e W' =>
      (e = .returned (.bool true) ∧ J (k + 1) W' ∧ Kp W1 W') ∨ (e = .returned (.bool false) ∧ Jx (k + 1) W')) →
    J 0 W →
    CallsIn F n P g (#[.func (.yield l) #[] #[]] ++ lb) W fun e W' => (∃ v, e = .returned v) ∧ (J N W' ∨ (∃ k, k ≤ N ∧ Jx k W'))
def seqPost (B : Nat) (Kp : World → World → Prop) (I : Nat → World → Prop) (Ix : Code → Nat → World → Prop) (k : Nat) (W : World) : Exit → Act → World → Prop
  | .normal, _, W' => KeepsFrom B W W' ∧ Kp W W' ∧ I k W'
  | .ret, _, W' => KeepsFrom B W W' ∧ Ix .ret k W'
  | .exit id, _, W' => KeepsFrom B W W' ∧ Ix (.exit id) k W'
  | .goto t, _, W' => KeepsFrom B W W' ∧ Ix (.goto t) k W'
  | .panic _, _, _ => False
  | .outgrown, _, _ => False
def OwnW (B : Nat) (I : World → Prop) : Prop := ∀ W W' row, I W → W.grownBy W' row → (∀ r, row = some r → B ≤ r ∧ ∃ o : Obj, W.heap[r]? = some o ∧ o.isCells = false) → I W'
theorem OwnW.putObj {B : Nat} {I : World → Prop} (h : OwnW B I) {W : World} {l : Nat} {o : Obj} (o' : Obj) (hs : I W) (hB : B ≤ l) (hl : W.heap[l]? = some o) (ho : o.isCells = false) : I (W.putObj l o') :=
  h W _ (some l) hs (grownBy_putObj' W l o') (fun r e => by cases e; exact ⟨hB, _, hl, ho⟩)
theorem OwnW.alloc {B : Nat} {I : World → Prop} (h : OwnW B I) {W : World} (o : Obj) (hs : I W) : I (W.alloc o) :=
  h W _ none hs (World.grownBy_alloc W o none) (fun r e => by cases e)
theorem OwnW.and {B : Nat} {I J : World → Prop} (h : OwnW B I) (h' : OwnW B J) : OwnW B (fun W => I W ∧ J W) := fun W W' row hs hg hr => ⟨h W W' row hs.1 hg hr, h' W W' row hs.2 hg hr⟩
theorem OwnW.pure {B : Nat} (p : Prop) : OwnW B (fun _ => p) := fun _ _ _ h _ _ => h
theorem OwnW.ex {B : Nat} {β : Sort _} {I : β → World → Prop} (h : ∀ x, OwnW B (I x)) : OwnW B (fun W => ∃ x, I x W) := fun W W' row ⟨x, hx⟩ hg hr => ⟨x, h x W W' row hx hg hr⟩
theorem OwnW.blk {B : Nat} (g : Nat) (cs : Array Value) (t : TypeId) (fr : Nat × Nat) : OwnW B (fun W => W.heap[g]? = some (.cells cs t fr)) := fun W W' row h hg hr => blk_grown h hg (fun e => by
  obtain ⟨_, o, ho, hc⟩ := hr g e.symm
  rw [h] at ho
  cases ho
  cases hc)
theorem OwnW.below {n₀ B : Nat} {w₀ : World} (hn : n₀ ≤ w₀.heap.size) (hB : n₀ ≤ B) : OwnW B (fun W => Below n₀ w₀ W) :=
  fun W W' row h hg hr => h.grown hg (Nat.le_trans hn h.size) (fun k e => Nat.le_trans hB (hr k e).1)
theorem OwnW.row {α : Type} {B : Nat} (d : Kd α) (e base : Nat) (ok : Nat → Prop) (v : Value) (xs : List α) : OwnW B (fun W => d.R e W base ok v xs) := fun W W' row h hg hr => by
  refine Kd.R_mono (Kd.R_grown (Kd.R_bound h) hg (fun k hk => ?_)) (fun _ hk => hk.1)
  rintro rfl
  obtain ⟨_, o, ho, hc⟩ := hr k rfl
  obtain ⟨_, _, _, q, _, cells, hcc⟩ := hk
  rw [hcc] at ho
  cases ho
  cases hc
theorem wpIn_rangeFunc_seq {g : Operand} {ps : Array Tmp} {assign body : Code} {Q : Exit → Act → World → Prop} {a : Act} {w : World}
    (hro : F.round = none) (h1 : 1 ≤ n) {gf : Nat} {lb : Array Value} (hg : a.eval g = .func (.func gf) #[] lb) (hFg : F.fn gf) (eg : ∀ args w, (callFunc gf args).run P w = .ok (.enter gf args) w)
    {vals : Nat → Array Value} {N : Nat} {Start : World → Prop} {Tch Kp : World → World → Prop} (hseq : IterSeq F (n - 1) P gf lb vals N Start Tch Kp)
    (hStart : OwnW w.heap.size Start) (hs0 : Start w) (hT : ∀ A B, Tch A B → KeepsFrom w.heap.size A B)
    (hKt : ∀ {A B C : World}, Kp A B → Kp B C → Kp A C) (hKb : ∀ (W : World) (l : Nat) (o o' : Obj), w.heap.size ≤ l → W.heap[l]? = some o → o.isCells = false → Kp W (W.putObj l o')) (hps : ∀ k, (vals k).size = ps.size)
    (I : Nat → World → Prop) (Ix : Code → Nat → World → Prop) (hI : ∀ k, OwnW w.heap.size (I k)) (hIx : ∀ c k, OwnW w.heap.size (Ix c k))
    (hIT : ∀ k A B, I k A → Tch A B → I k B) (hIxT : ∀ c k A B, Ix c k A → Tch A B → Ix c k B) (h0 : I 0 w) (a₁ : Nat → Act)
    (hassign : ∀ (l k : Nat) (W : World) (K : Act → World → Prop), K (a₁ k) W →
      assign.wpIn (F.inRound l) (n - 1 - 1) P (Exit.then K (fun _ _ _ => False)) { tmps := (ps.zip (vals k)).foldl (fun t (p, v) => t.setIfInBounds p v) a.tmps, defers := [] } W)
    (hbody : ∀ (l k : Nat) (W : World), I k W → k < N → body.wpIn (F.inRound l) (n - 1 - 1) P (seqPost w.heap.size Kp I Ix (k + 1) W) (a₁ k) W)
    (hdone : ∀ (D : Nat) (W : World), w.heap.size ≤ D → I N W → W.heap[D]? = some (.deferred (some [])) → Q .normal { a with defers := { target := .collected D, args := #[] } :: a.defers } W)
    (hstop : ∀ (D : Nat) (c : Code) (k : Nat) (W : World), w.heap.size ≤ D → k ≤ N → Ix c k W → W.heap[D]? = some (.deferred (some [])) → c.wpIn F n P Q { a with defers := { target := .collected D, args := #[] } :: a.defers } W) :
    (Code.rangeFunc g ps assign body).wpIn F n P Q a w := by
  refine wpIn_rangeFunc ?_
  intro fn hfn
  rw [hro]
  obtain ⟨rec, hrec⟩ : ∃ rec : LoopState → Option Code → Loop, rec = fun st pe => { state := st, pending := pe, fn, tmps := a.tmps, params := ps, assign, body, defers := w.heap.size } := ⟨_, rfl⟩
  obtain ⟨W1, hW1⟩ : ∃ W1, (w.alloc (.deferred (some []))).alloc (.loop (rec .ready none)) = W1 := ⟨_, rfl⟩
  have hL1 : W1.heap[w.heap.size + 1]? = some (.loop (rec .ready none)) := by
    rw [← hW1]; have := World.alloc_heap_new (w.alloc (.deferred (some []))) (.loop (rec .ready none)); rwa [World.size_alloc] at this
  have hK1 : W1.heap[w.heap.size]? = some (.deferred (some [])) := by
    rw [← hW1]; exact (Below.heap_alloc _ _ _ (by simp)).trans (World.alloc_heap_new w _)
  have hI1 : I 0 W1 := by rw [← hW1]; exact (hI 0).alloc _ ((hI 0).alloc _ h0)
  have hS1 : Start W1 := by rw [← hW1]; exact hStart.alloc _ (hStart.alloc _ hs0)
  refine ⟨w.heap.size + 1, [{ target := .collected w.heap.size, args := #[] }], W1, { target := .fn (.func gf) lb, args := #[.func (.yield (w.heap.size + 1)) #[] #[]] }, W1, gf,
    #[.func (.yield (w.heap.size + 1)) #[] #[]] ++ lb, W1, ?_, ?_, ?_, ?_, fun _ => h1, ?_⟩
  · rw [← hW1, hrec]; exact run_enterLoop_outer _ _ _ _ _
  · simp only [resolve, hg]
    simp [go_sem]
  · intro f' hf'; simp [Target.leads] at hf'; subst hf'; exact hFg
  · simp [invoke, go_sem, eg]
  · refine (hseq (w.heap.size + 1)
      (fun k W => I k W ∧ W.heap[w.heap.size + 1]? = some (.loop (rec .ready none)) ∧ W.heap[w.heap.size]? = some (.deferred (some [])))
      (fun k W => ∃ c, Ix c k W ∧ W.heap[w.heap.size + 1]? = some (.loop (rec .done (some c))) ∧ W.heap[w.heap.size]? = some (.deferred (some [])))
      W1 hS1
      (fun k A B hs ht => ⟨hIT k A B hs.1 ht, (hT A B ht).same _ _ (by omega) hs.2.1 rfl, (hT A B ht).same _ _ (Nat.le_refl _) hs.2.2 rfl⟩)
      (fun k A B hs ht => by
        obtain ⟨c, hc, hl, hk⟩ := hs
        exact ⟨c, hIxT c k A B hc ht, (hT A B ht).same _ _ (by omega) hl rfl, (hT A B ht).same _ _ (Nat.le_refl _) hk rfl⟩)
      ?_ ⟨hI1, hL1, hK1⟩).mono ?_
    · rintro k W ⟨hi, hl, hk⟩ hlen
      have hlt : w.heap.size + 1 < W.heap.size := (Array.getElem?_eq_some_iff.1 hl).1
      have hy := run_yield (P := P) (args := vals k) hl (by rw [hrec]; exact hps k)
      rw [hrec] at hy
      refine ⟨fn, _, assign, body, hy, roundIn_of_wpIn hfn (hassign _ k W _ ⟨_, run_beginRound hl (by rw [hrec]), ?_⟩)⟩
      have hl2 : (W.putObj (w.heap.size + 1) (.loop { rec .ready none with state := .busy })).heap[w.heap.size + 1]? = some (.loop { rec .ready none with state := .busy }) := World.putObj_heap_same hlt
      have hk2 : (W.putObj (w.heap.size + 1) (.loop { rec .ready none with state := .busy })).heap[w.heap.size]? = some (.deferred (some [])) := (World.putObj_heap_other (by omega)).trans hk
      have hw2 : Kp W (W.putObj (w.heap.size + 1) (.loop { rec .ready none with state := .busy })) := hKb _ _ _ _ (by omega) hl rfl
      refine wpIn_mono (hbody _ k _ ((hI k).putObj _ hi (by omega) hl rfl) hlen) ?_
      have fin : ∀ (jump : Option Code) (W3 : World), KeepsFrom w.heap.size (W.putObj (w.heap.size + 1) (.loop { rec .ready none with state := .busy })) W3 →
          (Instr.endRound (w.heap.size + 1) jump).run P W3 = .ok (.bool jump.isNone) (W3.putObj (w.heap.size + 1) (.loop (rec (if jump.isNone then .ready else .done) jump))) ∧
          W3.heap[w.heap.size + 1]? = some (.loop { rec .ready none with state := .busy }) ∧
          (W3.putObj (w.heap.size + 1) (.loop (rec (if jump.isNone then .ready else .done) jump))).heap[w.heap.size + 1]? = some (.loop (rec (if jump.isNone then .ready else .done) jump)) ∧
          (W3.putObj (w.heap.size + 1) (.loop (rec (if jump.isNone then .ready else .done) jump))).heap[w.heap.size]? = some (.deferred (some [])) := fun jump W3 hk3 => by
        have hl3 := hk3.same _ _ (by omega) hl2 rfl
        have := run_endRound (P := P) jump hl3
        rw [hrec] at this ⊢
        exact ⟨this, by rw [hrec] at hl3; exact hl3, World.putObj_heap_same (Array.getElem?_eq_some_iff.1 hl3).1, (World.putObj_heap_other (by omega)).trans (hk3.same _ _ (Nat.le_refl _) hk2 rfl)⟩
      rintro e a3 W3 hp
      cases e with
      | normal =>
        obtain ⟨hk3, hkp3, hi3⟩ := hp
        obtain ⟨hr, hl3, hl4, hk4⟩ := fin none W3 hk3
        exact ⟨_, _, hr, .inl ⟨rfl, ⟨(hI _).putObj _ hi3 (by omega) hl3 rfl, hl4, hk4⟩, hKt (hKt hw2 hkp3) (hKb _ _ _ _ (by omega) hl3 rfl)⟩⟩
      | ret =>
        obtain ⟨hk3, hi3⟩ := hp
        obtain ⟨hr, hl3, hl4, hk4⟩ := fin (some .ret) W3 hk3
        exact ⟨_, _, hr, .inr ⟨rfl, .ret, (hIx _ _).putObj _ hi3 (by omega) hl3 rfl, hl4, hk4⟩⟩
      | exit id =>
        obtain ⟨hk3, hi3⟩ := hp
        obtain ⟨hr, hl3, hl4, hk4⟩ := fin (some (.exit id)) W3 hk3
        exact ⟨_, _, hr, .inr ⟨rfl, .exit id, (hIx _ _).putObj _ hi3 (by omega) hl3 rfl, hl4, hk4⟩⟩
      | goto t =>
        obtain ⟨hk3, hi3⟩ := hp
        obtain ⟨hr, hl3, hl4, hk4⟩ := fin (some (.goto t)) W3 hk3
        exact ⟨_, _, hr, .inr ⟨rfl, .goto t, (hIx _ _).putObj _ hi3 (by omega) hl3 rfl, hl4, hk4⟩⟩
      | panic ch => exact hp.elim
      | outgrown => exact hp.elim
    · rintro e W2 ⟨⟨v, rfl⟩, (⟨hi, hl, hk⟩ | ⟨k, hkN, c, hi, hl, hk⟩)⟩
      · exact ⟨none, _, by have := run_endLoop (P := P) hl (by rw [hrec]; simp); rw [hrec] at this; exact this, hdone _ _ (Nat.le_refl _) ((hI _).putObj _ hi (by omega) hl rfl) ((World.putObj_heap_other (by omega)).trans hk)⟩
      · exact ⟨some c, _, by have := run_endLoop (P := P) hl (by rw [hrec]; simp); rw [hrec] at this; exact this, hstop _ c k _ (Nat.le_refl _) hkN ((hIx c k).putObj _ hi (by omega) hl rfl) ((World.putObj_heap_other (by omega)).trans hk)⟩
end Go.Proofs.Ytcfinlmocgbnbaa.XB
namespace Go.Proofs.Ytcfinlmocgbnbaa.XB
open Go.RowKit Go.Shelf Go.Proofs.YtcfinlmocgbnbaaW.PrintWords
theorem M_of {F : Fence} {n : Nat} {P : Program} {fn : Func} {R : Ending → World → Prop} {e : Exit} {a : Act} {w : World} (h : bodyPost P fn R e a w) : bodyPostM F n P fn R e a w := by
  cases e with
  | normal => obtain ⟨hd, hv⟩ := h; show LeavesInM F n P fn a.tmps R a.defers .returning w; rw [hd]; exact hv
  | ret => obtain ⟨hd, hv⟩ := h; show LeavesInM F n P fn a.tmps R a.defers .returning w; rw [hd]; exact hv
  | panic chain => obtain ⟨hd, hv⟩ := h; show LeavesInM F n P fn a.tmps R a.defers (.panicking chain) w; rw [hd]; exact hv
  | outgrown => exact h
  | exit id => exact h.elim
  | goto l => exact h.elim
theorem M_ret {F : Fence} {n : Nat} {P : Program} {fn : Func} {R : Ending → World → Prop} {e : Exit} {tmps : Array Value} {w : World} {D : Nat} {v : Value} (he : e = .ret ∨ e = .normal)
    (hD : w.heap[D]? = some (.deferred (some []))) (hv : (results fn tmps).run P (w.putObj D (.deferred none)) = .ok v (w.putObj D (.deferred none))) (hR : R (.returned v) (w.putObj D (.deferred none))) :
    bodyPostM F n P fn R e { tmps := tmps, defers := [{ target := .collected D, args := #[] }] } w := by
  have h : LeavesInM F n P fn tmps R [{ target := .collected D, args := #[] }] .returning w :=
    ⟨by simp, .inl ⟨_, _, rfl, run_takeDeferred hD, _, hv, hR⟩⟩
  rcases he with rfl | rfl <;> exact h
inductive ValsX (P : Program) (tmps : Array Value) (w : World) : List ResultVar → List Value → Prop where
  | nil : ValsX P tmps w [] []
  | tmp {u : Tmp} {rs : List ResultVar} {vs : List Value} (h : ValsX P tmps w rs vs) : ValsX P tmps w (.tmp u :: rs) (tmps.getD u undef :: vs)
  | cell {p : Tmp} {ty : TypeId} {rs : List ResultVar} {vs : List Value} (g : Nat) (t : TypeId) (cs : Array Value) (fr : Nat × Nat) (d : TypeDesc)
      (hp : tmps.getD p undef = .pointer (some ⟨g, 0, none⟩)) (hg : w.heap[g]? = some (.cells cs t fr))
      (hu : P.underlying ty = some d) (hd : (match d with | .struct _ | .array _ _ => true | _ => false) = true) (hi : (P.info? ty).map (·.size) = some cs.size)
      (h : ValsX P tmps w rs vs) : ValsX P tmps w (.cell p ty :: rs) (.agg cs :: vs)
  | one {p : Tmp} {ty : TypeId} {rs : List ResultVar} {vs : List Value} (g : Nat) (t : TypeId) (v : Value) (fr : Nat × Nat) (d : TypeDesc)
      (hp : tmps.getD p undef = .pointer (some ⟨g, 0, none⟩)) (hg : w.heap[g]? = some (.cells #[v] t fr))
      (hu : P.underlying ty = some d) (hd : (match d with | .struct _ | .array _ _ => true | _ => false) = false)
      (h : ValsX P tmps w rs vs) : ValsX P tmps w (.cell p ty :: rs) (v :: vs)
section
variable {P : Program} {tmps : Array Value} {w : World}
theorem valsX_run {rs : List ResultVar} {vs : List Value} (hv : ValsX P tmps w rs vs) (f : ResultVar → Sem Value) (hf : ∀ u, f (.tmp u) = pure (tmps.getD u undef)) (hc : ∀ a t, f (.cell a t) = (do loadVar t (← asAddr (tmps.getD a undef)))) :
    (rs.mapM f).run P w = .ok vs w := by
  induction hv with
  | nil => simp
  | tmp h ih => simp [List.mapM_cons, hf, ih]
  | cell g t cs fr d hp hg hu hd hi h ih =>
    rw [List.mapM_cons, hc, hp]
    simp [asAddr, run_loadVar_row w g t _ cs fr d hg hu hd hi, ih]
  | one g t v fr d hp hg hu hd h ih =>
    rw [List.mapM_cons, hc, hp]
    simp [asAddr, run_loadVar_one w g t _ v fr d hg hu hd, ih]
theorem resultsX_list {fn : Func} {rs : List ResultVar} {vs : List Value} (h : fn.results = rs.toArray) (hl : vs.length ≠ 1) (hv : ValsX P tmps w rs vs) : (results fn tmps).run P w = .ok (.tuple vs.toArray) w := by
  unfold results
  rw [h, List.mapM_toArray]
  simp only [Sem.run_bind, Sem.run_map]
  rw [valsX_run hv]
  · simp [hl]
  · intro u
    rfl
  · intro a t
    rfl
theorem resultsX_single {fn : Func} {r : ResultVar} {v : Value} (h : fn.results = #[r]) (hv : ValsX P tmps w [r] [v]) : (results fn tmps).run P w = .ok v w := by
  unfold results
  rw [show fn.results = [r].toArray from h, List.mapM_toArray]
  simp only [Sem.run_bind, Sem.run_map]
  rw [valsX_run hv]
  · simp
  · intro u
    rfl
  · intro a t
    rfl
end
end Go.Proofs.Ytcfinlmocgbnbaa.XB
namespace Go.Proofs.Ytcfinlmocgbnbaa.XB
open Go.RowKit Go.Shelf Go.Proofs.YtcfinlmocgbnbaaW.PrintWords
def QM (n : Nat) (P : Program) (fn : Func) (R : Ending → World → Prop) : Exit → Act → World → Prop
  | .normal, a, w | .ret, a, w => LeavesInM Fence.wide n P fn a.tmps R a.defers .returning w
  | _, _, _ => False
theorem QM_wp {n : Nat} {P : Program} {fn : Func} {R : Ending → World → Prop} {c : Code} {a : Act} {w : World} (h : c.wp P (QM n P fn R) a w) : c.wpIn Fence.wide n P (bodyPostM Fence.wide n P fn R) a w := by
  refine wpIn_mono (wpIn_wide.2 h) ?_
  intro e a w h
  cases e <;> first | exact h | exact h.elim
theorem QM_ret {n : Nat} {P : Program} {fn : Func} {R : Ending → World → Prop} {e : Exit} {tmps : Array Value} {w : World} {D : Nat} {v : Value} (he : e = .ret ∨ e = .normal)
    (hD : w.heap[D]? = some (.deferred (some []))) (hv : (results fn tmps).run P (w.putObj D (.deferred none)) = .ok v (w.putObj D (.deferred none))) (hR : R (.returned v) (w.putObj D (.deferred none))) :
    QM n P fn R e { tmps := tmps, defers := [{ target := .collected D, args := #[] }] } w := by
  have h : LeavesInM Fence.wide n P fn tmps R [{ target := .collected D, args := #[] }] .returning w :=
    ⟨by simp, .inl ⟨_, _, rfl, run_takeDeferred hD, _, hv, hR⟩⟩
  rcases he with rfl | rfl <;> exact h
end Go.Proofs.Ytcfinlmocgbnbaa.XB
namespace Go.Proofs.Ytcfinlmocgbnbaa.XB
open Go.RowKit Go.Shelf Go.Proofs.YtcfinlmocgbnbaaW.PrintWords
attribute [local go_sem] Oper.semAt_some
variable {F : Fence} {n : Nat} {P : Program}
theorem assign_one (l rid d p ty : Nat) (pos : String) (v : Value) (tmps : Array Value) (W : World) (K : Act → World → Prop) (hp : p < tmps.size)
    (hK : K { tmps := (tmps.setIfInBounds p v).setIfInBounds d v, defers := [] } W) :
    (Code.region rid #[{ dst := some d, op := Op.assign (Operand.tmp p), type := ty, pos := pos, after := #[], guard := none }] false).wpIn (F.inRound l) n P (Exit.then K (fun _ _ _ => False)) { tmps := (#[p].zip #[v]).foldl (fun t (p, v) => t.setIfInBounds p v) tmps, defers := [] } W := by
  have hv : ((tmps.setIfInBounds p v)[p]?).getD undef = v := by simp [hp]
  have hv2 : (tmps.setIfInBounds p v).getD p undef = v := by simpa using hv
  gi_wp2
  exact hK
end Go.Proofs.Ytcfinlmocgbnbaa.XB
namespace Go.Proofs.Ytcfinlmocgbnbaa.XB
open Go.RowKit Go.Shelf Go.Proofs.YtcfinlmocgbnbaaW.PrintWords
end Go.Proofs.Ytcfinlmocgbnbaa.XB
namespace Go.Proofs.Ytcfinlmocgbnbaa.XB
open Go.RowKit Go.Shelf Go.Proofs.YtcfinlmocgbnbaaW.PrintWords
theorem keeps_below {B : Nat} {W W1 : World} (h : Below W.heap.size W W1) : KeepsFrom B W W1 := ⟨h.size, fun _ _ _ hk _ => blk_same hk h⟩
theorem keeps_set {B : Nat} {W W1 : World} (h : KeepsFrom B W W1) (p : Addr) (u : Value) : KeepsFrom B W (W1.setCell p u) := h.trans ((KeepsOthers.setCell _ _ _).from _)
theorem blk_kept {α : Type} {d : Kd α} {e base : Nat} {W W1 : World} {ok : Nat → Prop} {v : Value} {xs : List α} (hR : d.R e W base ok v xs) (h : Kept W W1 (fun k => some k = v.ownBlock)) {g : Nat} {cs : Array Value} {t : TypeId} (hg : W.heap[g]? = some (.cells cs t (0, 0))) (ht : t ≠ e) :
    W1.heap[g]? = some (.cells cs t (0, 0)) :=
  (h.2 g (blk_lt hg) (fun hs => by obtain ⟨cells, hc⟩ := Kd.R_typed hR g hs.symm; rw [hc] at hg; cases hg; exact ht rfl)).trans hg
end Go.Proofs.Ytcfinlmocgbnbaa.XB
namespace Go.Proofs.Ytcfinlmocgbnbaa.XB
open Go.RowKit Go.Shelf Go.Proofs.YtcfinlmocgbnbaaW.PrintWords
section
variable {w : World} {g : Nat} {t : TypeId} {a b c d : Value}
theorem put20 (h : w.heap[g]? = some (.cells #[a, b] t (0, 0))) (v : Value) : (w.setCell ⟨g, 0, none⟩ v).heap[g]? = some (.cells #[v, b] t (0, 0)) := blk_set h 0 v
theorem put21 (h : w.heap[g]? = some (.cells #[a, b] t (0, 0))) (v : Value) : (w.setCell ⟨g, 1, none⟩ v).heap[g]? = some (.cells #[a, v] t (0, 0)) := blk_set h 1 v
end
theorem bkD {w : World} {g : Nat} {o : Obj} (h : w.heap[g]? = some o) : w.drew.heap[g]? = some o := h
theorem own_ne {α : Type} {d : Kd α} {e base g : Nat} {W : World} {ok : Nat → Prop} {v : Value} {xs : List α} (hR : d.R e W base ok v xs) {cs : Array Value} {t : TypeId} (hg : W.heap[g]? = some (.cells cs t (0, 0))) (ht : t ≠ e) : ∀ k, some k = v.ownBlock → k ≠ g := by
  rintro k hs rfl
  obtain ⟨cells, hc⟩ := Kd.R_typed hR _ hs.symm
  rw [hc] at hg
  cases hg
  exact ht rfl
end Go.Proofs.Ytcfinlmocgbnbaa.XB
end
section
set_option linter.unusedVariables false
namespace Go.Proofs.Ytcfinlmocgbnbaa.Sq
open Go.RowKit Go.Proofs.YtcfinlmocgbnbaaW.PrintWords Go.Proofs.YtcfinlmocgbnbaaW.PrintLast Go.Proofs.YtcfinlmocgbnbaaW.PrintMore
theorem append_keep {P : Program} (w : World) (base : Nat) (t ty e : TypeId) (i : TypeInfo) (z : Value) (size bytes : Nat) (ht : P.underlying t = some (.slice e)) (hi : P.info? e = some i) (hz : i.zero = some z)
    (hsize : i.size = size) (hby : i.bytes = bytes) (hzs : z.cells.size = size) (hsz : 0 < size)
    (v : Value) (n : Nat) (xs : List Value) (hown : w.ownsRow base e size v n xs)
    (ad : Addr) (m c : Nat) (news : List Value) (hl : news.length = m * size) (hnews : ∀ j u, news[j]? = some u → w.cell? (ad.add j) = some u) (h1 : ∀ u ∈ news, u.oneCell' = true)
    (h63 : n + m ≤ maxLen) (hbytes : (n + m) * bytes ≤ 140737488355328) (v' : Value) (w' : World) (hr : (Builtin.append_ #[t, t] ty #[v, .slice (some ad) m c]).run P w = .ok v' w') :
    ∀ g cap, v = .slice (some ⟨g, 0, none⟩) n cap → ∀ j, j < n * size → w'.cell? ⟨g, j, none⟩ = w.cell? ⟨g, j, none⟩ := by
  intro g cap hv j hj
  subst hv
  obtain ⟨hlen, h2⟩ := hown
  rcases h2 with ⟨h0, _⟩ | ⟨g', cap', cur, hv, hb, hh, hnc, hcm, hcs, htk⟩
  · cases h0
  injection hv with e1 e2 e3
  injection e1 with e1
  injection e1 with e1
  subst e1
  subst e3
  have hlt : g < w.heap.size := (Array.getElem?_eq_some_iff.1 hh).1
  by_cases hroom : n + m ≤ cap
  · have hb2 : ∀ q, q < news.length → n * size + q < cur.size := fun q hq => by
      rw [hcs]
      have h3 : (n + m) * size ≤ cap * size := Nat.mul_le_mul_right _ hroom
      rw [Nat.add_mul] at h3
      omega
    have hrun := run_append_room_cells (P := P) w t ty e i ht hi g 0 n cap ad m c news (by rw [hsize]; exact hl) hnews h1 hroom
      (fun q hq => by
        rw [hsize, Nat.zero_add]
        have h4 := hb2 q hq
        rw [blk_cell hh]
        simp [h4])
      (fun q hq => by
        rw [hsize, Nat.zero_add]
        exact blk_frozen hh _)
    rw [hr] at hrun
    injection hrun with _ e5
    rw [e5]
    refine World.cell?_setCells_out g news _ w ⟨g, j, none⟩ (fun _ _ => .inl ?_)
    show j < 0 + n * i.size
    rw [hsize]
    omega
  · obtain ⟨v2, w2, hr2, _, hg⟩ := run_append_arg_grows (P := P) w t ty e i z size bytes ht hi hz hsize hby hzs hsz ⟨g, 0, none⟩ n cap xs hlen
      (fun q u hq => by
        rw [Addr.add_lit, Nat.zero_add]
        rw [← htk, List.getElem?_take] at hq
        split at hq
        · rw [blk_cell hh, ← hq]
          simp
        · cases hq) ad m c news hl hnews (by omega) h63 hbytes
    rw [hr] at hr2
    injection hr2 with _ e5
    rw [e5]
    exact World.grownBy.cell_far hg _ hlt (by simp)
namespace Kd
variable {P : Program} {ops : Array Oper} {o : Oper} {rest : List Oper} {a : Act} {Q : Exit → Act → World → Prop} {α : Type}
open Go.Proofs.YtcfinlmocgbnbaaW.PrintWords.Kd
theorem R_append_keep (d : Kd α) {w0 W : World} (base : Nat) (hgd : o.guard = none) (s x : Operand) (t e : TypeId) (z : Value) (bytes : Nat)
    (ho : o.op = .call { callee := .builtin .append, args := #[s, x], argTypes := #[t, t] })
    (ht : P.underlying t = some (.slice e)) (hinfo : (P.info? e).map (fun i => (i.zero, i.size, i.bytes)) = some (some z, d.sz, bytes)) (hz : z.cells.size = d.sz) (hs0 : 0 < d.sz) (hb0 : 0 < bytes)
    (v : Value) (xs : List α) (p : α) (cs : List Value) (ok okp : Nat → Prop) (hs : a.eval s = v) (hx : a.eval x = .slice (some ⟨W.heap.size, 0, none⟩) 1 1) (hp : d.M W base okp p cs) (hokp : ∀ k, okp k → ok k ∧ some k ≠ v.ownBlock) (hfresh : ∀ k, W.heap.size ≤ k → ok k)
    (HO : d.R e W base ok v xs) (HB : Below base w0 W) (hbase : base ≤ W.heap.size) (hl : (xs.length + 1) * bytes ≤ 140737488355328)
    (h : ∀ v1 w1, d.R e w1 base ok v1 (xs ++ [p]) → Below base w0 w1 → W.grownBy w1 v.ownBlock → (v1.ownBlock = v.ownBlock ∨ ∃ b, v1.ownBlock = some b ∧ W.heap.size ≤ b) → (∀ g cap, v = .slice (some ⟨g, 0, none⟩) xs.length cap → ∀ j, j < xs.length * d.sz → w1.cell? ⟨g, j, none⟩ = W.cell? ⟨g, j, none⟩) → wpList P ops Q rest (a.put o.dst v1) w1) :
    wpList P ops Q (o :: rest) a (W.alloc (.cells cs.toArray e)) := by
  obtain ⟨h0, inner, hown, hr⟩ := HO
  obtain ⟨i0, hi, hzz⟩ := Option.map_eq_some_iff.1 hinfo
  simp only [Prod.mk.injEq] at hzz
  obtain ⟨hz0, hz1, hz2⟩ := hzz
  have hlen : xs.length + 1 ≤ 140737488355328 := Nat.le_trans (Nat.le_mul_of_pos_right _ hb0) hl
  have hys := d.K_len (d.K_of_M hp)
  have h1 := d.K_one (d.K_of_M hp)
  have hn : ∀ j u, cs[j]? = some u → (W.alloc (.cells cs.toArray e)).cell? ((⟨W.heap.size, 0, none⟩ : Addr).add j) = some u := by
    simpa using World.news_of_block (cs := cs.toArray) (t := e) (fr := (0, 0)) (heap_alloc_new W (.cells cs.toArray e))
  refine wpList_plain hgd fun K hK => ?_
  obtain ⟨v', w', hrun, h2, h3, _, h5⟩ := run_append_own_at (P := P) (W.alloc (.cells cs.toArray e)) base t o.type e i0 z d.sz bytes ht hi hz0 hz1 hz2 hz hs0 v xs.length inner (hown.alloc _) ⟨W.heap.size, 0, none⟩ 1 1 cs (by rw [hys]; simp) hn h1 (by simp only [maxLen]; omega) hl (by simp; omega)
  have hk := append_keep (P := P) (W.alloc (.cells cs.toArray e)) base t o.type e i0 z d.sz bytes ht hi hz0 hz1 hz2 hz hs0 v xs.length inner (hown.alloc _) ⟨W.heap.size, 0, none⟩ 1 1 cs (by rw [hys]; simp) hn h1 (by simp only [maxLen]; omega) hl v' w' hrun
  unfold Oper.wp execOp
  simp only [ho, resolve, invoke, builtin, Sem.run_bind, Sem.run_pure, Result.andThen_ok, List.map_toArray, List.map_cons, List.map_nil, hs, hx, hrun]
  have hg := World.grownBy.trans (World.grownBy_alloc W (.cells cs.toArray e) v.ownBlock) h3
  have hat : v'.ownBlock = v.ownBlock ∨ ∃ b, v'.ownBlock = some b ∧ W.heap.size ≤ b := by
    rcases h5 with h5 | h5
    · exact .inl h5
    · exact .inr ⟨_, h5, by simp⟩
  refine hK _ _ (h v' w' (R_appended h0 hr hp hokp hfresh h2 hg hat) ((HB.alloc hbase _).grown h3 (by simp; omega) (own_base hown)) hg hat ?_)
  intro g cap hv j hj
  refine (hk g cap hv j hj).trans ?_
  obtain ⟨g', cap', hf, _, hlt⟩ := World.ownsRow.form hown (by rcases Nat.eq_zero_or_pos xs.length with e | e; (rw [e] at hj; simp at hj); exact e)
  rw [hv] at hf
  injection hf with e1 _ _
  injection e1 with e1
  injection e1 with e1
  subst e1
  exact World.grownBy.cell_far (World.grownBy_alloc W (.cells cs.toArray e) none) _ hlt (by simp)
theorem C_append_keep {base : Nat} {ok : Nat → Prop} {W w1 : World} {v : Value} {xs ys : List Int} {g m : Nat} (HO : Kd.R (Kd.int .u8) 5 W base ok v xs) (hg : W.grownBy w1 v.ownBlock) (hkp : ∀ g cap, v = .slice (some ⟨g, 0, none⟩) xs.length cap → ∀ j, j < xs.length * (Kd.int .u8).sz → w1.cell? ⟨g, j, none⟩ = W.cell? ⟨g, j, none⟩)
    (hC : Kd.C (Kd.int .u8) W (some ⟨g, 0, none⟩) m ys) (hm : m ≤ xs.length) : Kd.C (Kd.int .u8) w1 (some ⟨g, 0, none⟩) m ys := by
  refine ⟨hC.1, hC.2.1, fun h0 => ?_⟩
  obtain ⟨ad, e, f⟩ := hC.2.2 h0
  obtain rfl := Option.some.inj e
  refine ⟨_, rfl, fun j p hj => ?_⟩
  obtain ⟨c, h1, h2, h3⟩ := f j p hj
  refine ⟨c, h1, h2, fun i u hu => ?_⟩
  have h4 := h3 i u hu
  have hjm : j < m := by have := (List.getElem?_eq_some_iff.1 hj).1; rw [hC.1] at this; exact this
  have hi0 : i = 0 := by
    have := (List.getElem?_eq_some_iff.1 hu).1
    have e1 : (Kd.int .u8).sz = 1 := rfl
    omega
  subst hi0
  have e1 : (Kd.int .u8).sz = 1 := rfl
  rw [e1, Nat.mul_one, Nat.add_zero, Addr.add_lit, Nat.zero_add] at h4 ⊢
  obtain ⟨g', cap, hf, _, _, _⟩ := R_form HO (by omega)
  by_cases hb : g = g'
  · subst hb
    rw [hkp g cap hf j (by rw [e1]; omega)]
    exact h4
  · have hlt := World.block_lt_of_cell? W _ h4
    exact (World.grownBy.cell_far hg ⟨g, j, none⟩ hlt (by rw [hf]; simp [Value.ownBlock]; exact hb)).trans h4
end Kd
end Go.Proofs.Ytcfinlmocgbnbaa.Sq
end
