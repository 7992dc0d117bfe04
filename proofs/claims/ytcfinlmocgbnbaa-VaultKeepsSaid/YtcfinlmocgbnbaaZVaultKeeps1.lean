/-
  A part of what the row VaultKeeps reaches, laid together by a program of this session (wip/tools/shake.py) out of this seat's texts. No condition but the ones that each lemma names.
-/
import Derived.Test.YtcfinlmocgbnbaaProg
import Derived.Below
import Derived.Deep.Draws
import Derived.Deep.AppendLies
import Derived.Maps.AppendAt
import Derived.OwnWalk
import Derived.Laws.BytesArg
import Derived.Laws.MakeOwn
import Derived.Laws.OwnMore
import Derived.Deep.OwnRows
import Derived.Tactics
import Derived.Lib.ConvBytes
import Derived.Laws.Slices
import Derived.WalkKit
import Derived.KernelRfl
import Derived.RowKit3
import Derived.Deep.LoopGhost
import Derived.Deep.QuietTactic
import Derived.BigQuiet
import Derived.WideLaws
import Derived.Deep.DeepCutAuto
import Derived.Deep.CutBlock
import Derived.Deep.RegionHeld3
import Derived.Laws.Rows
import Derived.Lib.AppendStr
import Derived.ArgAppend
import Derived.Laws.IdiomCopy
import Derived.OrdersHeld
import Derived.Laws.BitsLemmas
import Derived.RowKit
import Derived.RangeFuncNested
import Derived.RangeFuncBound
import Derived.RangeFuncCalls
import Derived.RangeFuncLeaves
import Derived.Shelf.Abstract
import Derived.Shelf.RegionOpen
import Derived.OwnWalkIn
import Derived.TacticsInMore
import Derived.LoopNIn
import Derived.LoopIn
import Derived.RegionTactic
import Derived.ChangeAlike
import Derived.Outline
import Derived.Lib.Hide
import Derived.Lib.SliceRun
import Derived.Deep.Quiet
import Derived.StillTail
import Derived.OrdersIn
import Derived.TacticsIn
import Derived.Test.YtcfinlmocgbnbaaZVaultKeeps0
set_option linter.unusedVariables false
set_option linter.unusedSimpArgs false
section
set_option linter.unusedVariables false
namespace Go.Proofs.Ytcfinlmocgbnbaa.Sq
open Go.RowKit Go.Proofs.YtcfinlmocgbnbaaW.PrintWords Go.Proofs.YtcfinlmocgbnbaaW.PrintLast Go.Proofs.YtcfinlmocgbnbaaW.PrintMore
variable {P : Program} {ops : Array Oper} {Q : Exit → Act → World → Prop} {md : Region.Mode} {S : World → Prop} {ds : List Nat} {T : Bool × List (List Nat × List Nat)} {B : List Nat}
theorem pu_ {oi : Oper} {v : Value} {fuel : Nat} {l : Array Bool} {a a' : Act} {w : World} (i : Nat) (N : Option Tmp) (hT : Aside0 (rtab md ops = T)) (hi : ops[i]? = some oi) (hN : oi.dst = N)
    (hy : Yields P ops oi v a) (ha : a.put N v = a') (h : wpAnyLast P md ops Q S ds fuel (l.setIfInBounds i true) a' w) (hc : anyT T l.toList (l.setIfInBounds i true).toList i = true := by kernel_rfl) (hQ : ∀ c a w, Q (.panic c) (a.put oi.dst v) w → Q (.panic c) a w := by exact fun _ _ _ h => h) : wpAnyLast P md ops Q S ds (fuel + 1) l a w :=
  pure_ (i := i) (N := N) _ hi hN (any_of hT.out hc) hQ hy ha h
theorem tk_ {oi : Oper} {v : Value} {fuel : Nat} {l : Array Bool} {a a' : Act} {w : World} (i : Nat) (N : Option Tmp) (hT : Aside0 (rtab md ops = T)) (hB : Aside0 (waitsOk T.2 B = true)) (hi : ops[i]? = some oi) (hN : oi.dst = N)
    (hy : YieldsIf P ops S oi v a) (hS : S w) (ha : a.put N v = a') (h : wpAnyLast P md ops Q S ds fuel (l.setIfInBounds i true) a' w) (hc : takeW T B ds l.toList (l.setIfInBounds i true).toList i = true := by kernel_rfl) (hQ : ∀ c a w, Q (.panic c) (a.put oi.dst v) w → Q (.panic c) a w := by exact fun _ _ _ h => h) : wpAnyLast P md ops Q S ds (fuel + 1) l a w :=
  take_ (i := i) (N := N) _ hi hN (take_ofW hT.out hB.out hc) hQ hy hS ha h
theorem on_ {oi : Oper} {fuel : Nat} {l : Array Bool} {a : Act} {w : World} (i : Nat) (N : Option Tmp) (hT : Aside0 (rtab md ops = T)) (hi : ops[i]? = some oi) (hN : oi.dst = N)
    (h : ∀ K : Act → World → Prop, Shut (∀ a' w', S w' → (S w' → wpAnyLast P md ops Q S ds fuel (l.setIfInBounds i true) a' w') → K a' w') → if Region.wanted oi (yielded ops a.tmps) = true then Oper.wp P oi a w K Q else K (a.put N undef) w) (hc : (readyT T.2 l.toList == [i] && l.toList.set i true == (l.setIfInBounds i true).toList) = true := by kernel_rfl) (hd : i ∉ ds := by decide) :
    wpAnyLast P md ops Q S ds (fuel + 1) l a w :=
  one_ (i := i) (N := N) _ hi hN (one_of hT.out hc) hd h
theorem la_ {oi : Oper} {fuel : Nat} {l : Array Bool} {a : Act} {w : World} (i : Nat) (N : Option Tmp) (hT : Aside0 (rtab md ops = T)) (hi : ops[i]? = some oi) (hN : oi.dst = N)
    (h : ∀ K : Act → World → Prop, Shut (∀ a' w', wpAnyLast P md ops Q S ds fuel (l.setIfInBounds i true) a' w' → K a' w') → if Region.wanted oi (yielded ops a.tmps) = true then Oper.wp P oi a w K Q else K (a.put N undef) w) (hc : (readyT T.2 l.toList == [i] && l.toList.set i true == (l.setIfInBounds i true).toList) = true := by kernel_rfl) (hd : i ∈ ds := by decide) :
    wpAnyLast P md ops Q S ds (fuel + 1) l a w :=
  last_ (i := i) (N := N) _ hi hN (one_of hT.out hc) hd h
theorem sa_ {α : Type _} (l : List α) (i : Nat) (a : α) : l.toArray.setIfInBounds i a = (l.set i a).toArray := List.setIfInBounds_toArray ..
theorem s0_ {α : Type _} (x : α) (l : List α) (a : α) : (x :: l).set 0 a = a :: l := rfl
theorem s1_ {α : Type _} (x : α) (l : List α) (n : Nat) (a : α) : (x :: l).set (n + 1) a = x :: l.set n a := rfl
class Later (w w' : World) : Prop where
  below : Below w.heap.size w w'
instance (w : World) : Later w w := ⟨Below.refl _ _⟩
instance (w w' : World) (o : Obj) [h : Later w w'] : Later w (w'.alloc o) := ⟨below_alloc h.below o⟩
instance (w w' : World) [h : Later w w'] : Later w w'.drew := ⟨below_drew h.below⟩
instance (w w' : World) (n : Nat) [h : Later w w'] : Later w (w'.drewN n) := ⟨pw_below_drewN h.below n⟩
theorem ob_ {α β : Type _} {o : Option α} {f : α → Option β} {b : β} (h : o.bind f = some b) : ∃ a, o = some a ∧ f a = some b := Option.bind_eq_some_iff.mp h
theorem am {p : Prop} (h : p) : Aside0 p := ⟨h⟩
theorem pb {w0 w w' : World} (h : Aside0 (Below w0.heap.size w0 w)) [k : Later w w'] : Below w0.heap.size w0 w' := below_step h.out k.below
theorem pk {w w' : World} {g : Nat} {o : Obj} (h : Aside0 (w.heap[g]? = some o)) [k : Later w w'] : w'.heap[g]? = some o := bkB h.out k.below
theorem pr {α : Type} {d : Kd α} {e base : Nat} {ok : Nat → Prop} {v : Value} {xs : List α} {w w' : World} (h : Aside0 (d.R e w base ok v xs)) [k : Later w w'] : d.R e w' base ok v xs := Kd.R_below h.out k.below
theorem pm {α : Type} {d : Kd α} {e base : Nat} {ok ok' : Nat → Prop} {v : Value} {xs : List α} {w w' : World} (h : Aside0 (d.R e w base ok v xs)) (f : ∀ k, ok k → ok' k) [k : Later w w'] : d.R e w' base ok' v xs := Kd.R_mono (Kd.R_below h.out k.below) f
section
variable {w : World} {g : Nat} {t : TypeId} {a b c d e f : Value}
theorem bc2 (h : Aside0 (w.heap[g]? = some (.cells #[a, b] t (0, 0)))) : w.cell? ⟨g, 0, none⟩ = some a ∧ w.cell? ⟨g, 1, none⟩ = some b := ⟨(blk_cell h.out 0).trans rfl, (blk_cell h.out 1).trans rfl⟩
theorem bc5 (h : Aside0 (w.heap[g]? = some (.cells #[a, b, c, d, e] t (0, 0)))) : w.cell? ⟨g, 0, none⟩ = some a ∧ w.cell? ⟨g, 1, none⟩ = some b ∧ w.cell? ⟨g, 2, none⟩ = some c ∧ w.cell? ⟨g, 3, none⟩ = some d ∧ w.cell? ⟨g, 4, none⟩ = some e := ⟨(blk_cell h.out 0).trans rfl, (blk_cell h.out 1).trans rfl, (blk_cell h.out 2).trans rfl, (blk_cell h.out 3).trans rfl, (blk_cell h.out 4).trans rfl⟩
end
section
variable {α : Type} {d : Kd α} {e base g : Nat} {ok : Nat → Prop} {v : Value} {xs : List α} {w : World} {v0 v1 v2 v3 v4 : Value}
theorem rf1 (h : d.R e w base ok v xs) (hg : ∀ k, ok k → k ≠ g) : d.R e (w.setCell ⟨g, 0, none⟩ v0) base ok v xs := Kd.R_far (p := ⟨g, 0, none⟩) h hg v0
theorem rf2 (h : d.R e w base ok v xs) (hg : ∀ k, ok k → k ≠ g) : d.R e ((w.setCell ⟨g, 0, none⟩ v0).setCell ⟨g, 1, none⟩ v1) base ok v xs := Kd.R_far (p := ⟨g, 1, none⟩) (rf1 h hg) hg v1
theorem rf3 (h : d.R e w base ok v xs) (hg : ∀ k, ok k → k ≠ g) : d.R e (((w.setCell ⟨g, 0, none⟩ v0).setCell ⟨g, 1, none⟩ v1).setCell ⟨g, 2, none⟩ v2) base ok v xs := Kd.R_far (p := ⟨g, 2, none⟩) (rf2 h hg) hg v2
theorem rf4 (h : d.R e w base ok v xs) (hg : ∀ k, ok k → k ≠ g) : d.R e ((((w.setCell ⟨g, 0, none⟩ v0).setCell ⟨g, 1, none⟩ v1).setCell ⟨g, 2, none⟩ v2).setCell ⟨g, 3, none⟩ v3) base ok v xs := Kd.R_far (p := ⟨g, 3, none⟩) (rf3 h hg) hg v3
theorem rf5 (h : d.R e w base ok v xs) (hg : ∀ k, ok k → k ≠ g) : d.R e (((((w.setCell ⟨g, 0, none⟩ v0).setCell ⟨g, 1, none⟩ v1).setCell ⟨g, 2, none⟩ v2).setCell ⟨g, 3, none⟩ v3).setCell ⟨g, 4, none⟩ v4) base ok v xs := Kd.R_far (p := ⟨g, 4, none⟩) (rf4 h hg) hg v4
end
section
variable {w : World} {g g' : Nat} {t : TypeId} {cs : Array Value} {o : Obj} {a b c d e a' b' c' d' e' : Value} {i0 i1 i2 i3 i4 : Nat}
theorem bf2 (h : Aside0 (w.heap[g]? = some (.cells cs t (0, 0)))) : w.frozen? ⟨g, 0, none⟩ = false ∧ w.frozen? ⟨g, 1, none⟩ = false := ⟨blk_frozen h.out 0, blk_frozen h.out 1⟩
theorem bf5 (h : Aside0 (w.heap[g]? = some (.cells cs t (0, 0)))) : w.frozen? ⟨g, 0, none⟩ = false ∧ w.frozen? ⟨g, 1, none⟩ = false ∧ w.frozen? ⟨g, 2, none⟩ = false ∧ w.frozen? ⟨g, 3, none⟩ = false ∧ w.frozen? ⟨g, 4, none⟩ = false := ⟨blk_frozen h.out 0, blk_frozen h.out 1, blk_frozen h.out 2, blk_frozen h.out 3, blk_frozen h.out 4⟩
theorem br5 (h : w.heap[g]? = some (.cells cs t (0, 0))) (n : Aside0 (g ≠ g')) : (((((w.setCell ⟨g', i0, none⟩ a).setCell ⟨g', i1, none⟩ b).setCell ⟨g', i2, none⟩ c).setCell ⟨g', i3, none⟩ d).setCell ⟨g', i4, none⟩ e).heap[g]? = some (.cells cs t (0, 0)) :=
  blk_far (blk_far (blk_far (blk_far (blk_far h n.out _) n.out _) n.out _) n.out _) n.out _
theorem bp2 (h : w.heap[g]? = some (.cells #[a, b] t (0, 0))) : ((w.setCell ⟨g, 0, none⟩ a').setCell ⟨g, 1, none⟩ b').heap[g]? = some (.cells #[a', b'] t (0, 0)) := blk_put (cs := #[a', b]) (blk_put (cs := #[a, b]) h 0 _ rfl) 1 _ rfl
theorem bp5 (h : w.heap[g]? = some (.cells #[a, b, c, d, e] t (0, 0))) : (((((w.setCell ⟨g, 0, none⟩ a').setCell ⟨g, 1, none⟩ b').setCell ⟨g, 2, none⟩ c').setCell ⟨g, 3, none⟩ d').setCell ⟨g, 4, none⟩ e').heap[g]? = some (.cells #[a', b', c', d', e'] t (0, 0)) :=
  blk_put (cs := #[a', b', c', d', e]) (blk_put (cs := #[a', b', c', d, e]) (blk_put (cs := #[a', b', c, d, e]) (blk_put (cs := #[a', b, c, d, e]) (blk_put (cs := #[a, b, c, d, e]) h 0 _ rfl) 1 _ rfl) 2 _ rfl) 3 _ rfl) 4 _ rfl
end
section
variable {w W : World} {g g' j n : Nat} {u : Value} {o : Obj} {t : TypeId} {cs : Array Value}
theorem ba (h : Below w.heap.size w W) : Below w.heap.size w (W.alloc o) := below_alloc h o
theorem bn (h : Below w.heap.size w W) : Below w.heap.size w (W.drewN n) := pw_below_drewN h n
theorem bd (h : Below w.heap.size w W) : Below w.heap.size w W.drew := below_drew1 h
theorem bs (hg : Aside0 (w.heap.size ≤ g)) (h : Below w.heap.size w W) : Below w.heap.size w (W.setCell ⟨g, j, none⟩ u) := below_set h hg.out
theorem ge_ (hg : g = W.heap.size) (h : Below w.heap.size w W) : Aside0 (w.heap.size ≤ g) := ⟨by rw [hg]; exact h.size⟩
theorem nl_ (hg : g' = W.heap.size) (h : Aside0 (w.heap[g]? = some o)) [k : Later w W] : Aside0 (g ≠ g') := ⟨by rw [hg]; exact Nat.ne_of_lt (blk_lt (pk h))⟩
theorem ng_ (hg : g' = W.heap.size) (h : Aside0 (w.heap[g]? = some o)) [k : Later w W] : Aside0 (g' ≠ g) := ⟨by rw [hg]; exact Nat.ne_of_gt (blk_lt (pk h))⟩
end
section
variable {α : Type} {d : Kd α} {e base g : Nat} {ok : Nat → Prop} {v : Value} {xs : List α} {w W : World} {v0 v1 v2 v3 v4 : Value} {t : TypeId} {cs : Array Value}
theorem ra {o : Obj} (h : d.R e w base ok v xs) : d.R e (w.alloc o) base ok v xs := Kd.R_alloc h o
theorem rn {n : Nat} (h : d.R e w base ok v xs) : d.R e (w.drewN n) base ok v xs := Kd.R_drewN h n
theorem rd (h : d.R e w base ok v xs) : d.R e w.drew base ok v xs := Kd.R_drew h
theorem rs5 (h : Aside0 (d.R e w base ok v xs)) (b : Aside0 (w.heap[g]? = some (.cells cs t (0, 0)))) (ht : ∀ q, q ∈ e :: d.E → q ≠ t) : d.R e (((((w.setCell ⟨g, 0, none⟩ v0).setCell ⟨g, 1, none⟩ v1).setCell ⟨g, 2, none⟩ v2).setCell ⟨g, 3, none⟩ v3).setCell ⟨g, 4, none⟩ v4) base ok v xs :=
  Kd.R_mono (rf5 (Kd.R_types h.out b.out ht) (fun _ hk => hk.2)) (fun _ h_ => h_.1)
theorem rs2 (h : Aside0 (d.R e w base ok v xs)) (b : Aside0 (w.heap[g]? = some (.cells cs t (0, 0)))) (ht : ∀ q, q ∈ e :: d.E → q ≠ t) : d.R e ((w.setCell ⟨g, 0, none⟩ v0).setCell ⟨g, 1, none⟩ v1) base ok v xs :=
  Kd.R_mono (rf2 (Kd.R_types h.out b.out ht) (fun _ hk => hk.2)) (fun _ h_ => h_.1)
end
end Go.Proofs.Ytcfinlmocgbnbaa.Sq
end
section
namespace Go.Proofs.Ytcfinlmocgbnbaa.Pr
open Go.RowKit Go.Proofs.YtcfinlmocgbnbaaW.PrintWords Go.Proofs.YtcfinlmocgbnbaaW.PrintLast Go.Proofs.YtcfinlmocgbnbaaW.PrintMore
attribute [local go_sem] max2_int min2_int max_two min_two max_three min_three max_four min_four
set_option linter.unusedVariables false
set_option linter.unusedSimpArgs false
def errW : Option Int → Value
 | none => .nilIface
 | some c => .iface 0 (.int .i64 c)
theorem errW_none : errW none = .nilIface := rfl
theorem errW_some (c : Int) : errW (some c) = .iface 0 (.int .i64 c) := rfl
theorem info5 : (Try.prog.info? 5).map (fun i => (i.zero, i.size, i.bytes)) = some (some (.int .u8 0), 1, 1) := by kernel_rfl
theorem info9 : (Try.prog.info? 9).map (fun i => (i.zero, i.size, i.bytes)) = some (some (.string ⟨#[]⟩), 1, 16) := by kernel_rfl
theorem info24 : (Try.prog.info? 24).map (fun i => (i.zero, i.size, i.bytes)) = some (some (.agg #[(.bool false), (.int .i64 0), (.string ⟨#[]⟩)]), 3, 32) := by kernel_rfl
structure S24 where
 f0 : Bool
 f1 : Int
 f2 : ByteArray
def z24 : S24 := ⟨false, (0 : Int), (⟨#[]⟩ : ByteArray)⟩
def k24 : Kd S24 := Kd.iso (Kd.pair Kd.bool (Kd.pair (Kd.int .i64) Kd.string)) (fun x : S24 => (x.f0, x.f1, x.f2))
theorem k24_open {w : World} {x : S24} {cs : List Value} (h : k24.K w x cs) : cs = [.bool x.f0, .int .i64 x.f1, .string x.f2] := by
 obtain ⟨_, _, rfl, rfl, ⟨_, _, rfl, rfl, rfl⟩⟩ := h
 exact rfl
theorem k24_mkM (w : World) (base : Nat) (ok : Nat → Prop) (x : S24)  : k24.M w base ok x [.bool x.f0, .int .i64 x.f1, .string x.f2] := ⟨[.bool x.f0], [.int .i64 x.f1, .string x.f2], rfl, rfl, ⟨[.int .i64 x.f1], [.string x.f2], rfl, rfl, rfl⟩⟩
def rd_T24 (xs : List S24) (i : Int) : S24 := xs.getD i.toNat z24
theorem at_T24 {w : World} {A : Option Addr} {n : Nat} {xs : List S24} (h : Kd.C k24 w A n xs) (i : Int) (h0 : 0 ≤ i) (h1 : i < n) : ∃ ad , A = some ad ∧ w.cell? (ad.add (i.toNat * 3)) = some (.bool (rd_T24 xs i).f0) ∧ w.cell? ⟨(ad.add (i.toNat * 3)).block, (ad.add (i.toNat * 3)).off + 1, none⟩ = some (.int .i64 (rd_T24 xs i).f1) ∧ w.cell? ⟨(ad.add (i.toNat * 3)).block, (ad.add (i.toNat * 3)).off + 2, none⟩ = some (.string (rd_T24 xs i).f2) := by
 obtain ⟨ad, c, e, _, hK, hc0⟩ := Kd.C_get h z24 i h0 h1
 have hc : ∀ j u, c[j]? = some u → w.cell? (ad.add (i.toNat * 3 + j)) = some u := hc0
 obtain rfl := k24_open hK
 exact ⟨ad, e, hc 0 _ rfl, by rw [← add_field _ _ 1 (by omega)]; exact hc 1 _ rfl, by rw [← add_field _ _ 2 (by omega)]; exact hc 2 _ rfl⟩
structure S30 where
 f0 : (List ByteArray)
 f1 : (List S24)
structure S56 where
 f0 : S30
 f1 : Int
 f2 : Int
 f3 : Int
structure S60 where
 f0 : Int
 f1 : Int
def z60 : S60 := ⟨(0 : Int), (0 : Int)⟩
def k60 : Kd S60 := Kd.iso (Kd.pair (Kd.int .i64) (Kd.int .i64)) (fun x : S60 => (x.f0, x.f1))
theorem k60_open {w : World} {x : S60} {cs : List Value} (h : k60.K w x cs) : cs = [.int .i64 x.f0, .int .i64 x.f1] := by
 obtain ⟨_, _, rfl, rfl, rfl⟩ := h
 exact rfl
theorem k60_mk (w : World) (x : S60)  : k60.K w x [.int .i64 x.f0, .int .i64 x.f1] := ⟨[.int .i64 x.f0], [.int .i64 x.f1], rfl, rfl, rfl⟩
def rd_T60 (xs : List S60) (i : Int) : S60 := xs.getD i.toNat z60
theorem at_T60 {w : World} {A : Option Addr} {n : Nat} {xs : List S60} (h : Kd.C k60 w A n xs) (i : Int) (h0 : 0 ≤ i) (h1 : i < n) : ∃ ad , A = some ad ∧ w.cell? (ad.add (i.toNat * 2)) = some (.int .i64 (rd_T60 xs i).f0) ∧ w.cell? ⟨(ad.add (i.toNat * 2)).block, (ad.add (i.toNat * 2)).off + 1, none⟩ = some (.int .i64 (rd_T60 xs i).f1) := by
 obtain ⟨ad, c, e, _, hK, hc0⟩ := Kd.C_get h z60 i h0 h1
 have hc : ∀ j u, c[j]? = some u → w.cell? (ad.add (i.toNat * 2 + j)) = some u := hc0
 obtain rfl := k60_open hK
 exact ⟨ad, e, hc 0 _ rfl, by rw [← add_field _ _ 1 (by omega)]; exact hc 1 _ rfl⟩
structure S67 where
 f0 : Int
 f1 : Int
 f2 : Int
end Go.Proofs.Ytcfinlmocgbnbaa.Pr
end
section
namespace Go.Proofs.Ytcfinlmocgbnbaa.Pr
open Go.Proofs.Ytcfinlmocgbnbaa.Sq Go.RowKit Go.Proofs.YtcfinlmocgbnbaaW.PrintWords Go.Proofs.YtcfinlmocgbnbaaW.PrintLast Go.Proofs.YtcfinlmocgbnbaaW.PrintMore
attribute [local go_sem] max2_int min2_int max_two min_two max_three min_three max_four min_four
set_option linter.unusedVariables false
set_option linter.unusedSimpArgs false
def columbariumlaw15_pick.f (a0 : Int) (a1 : Int) : Option (Int) := if a0 < 0 then (if a1 = 0 then (none) else (some (Int.tmod (wrap64 (-(wrap64 (a0 + 1)))) a1))) else (if a1 = 0 then (none) else (some (Int.tmod a0 a1)))
set_option maxHeartbeats 8000000 in
set_option maxRecDepth 100000 in
theorem columbariumlaw15_pick.calls (a0 : Int) (a1 : Int) (r : Int) (w : World) (h : columbariumlaw15_pick.f a0 a1 = some r) :
  Calls Try.prog 29 #[.int .i64 a0, .int .i64 a1] w fun e w' => e = .returned (.int .i64 r) ∧ Drawn0 w w' := by
 have H : (if a0 < 0 then (if a1 = 0 then (none) else (some (Int.tmod (wrap64 (-(wrap64 (a0 + 1)))) a1))) else (if a1 = 0 then (none) else (some (Int.tmod a0 a1)))) = some r := h
 clear h
 by_cases c3 : a0 < 0
 ·rw [if_pos c3] at H
  have c3b0 : decide (a0 < 0) = true := decide_eq_true c3
  clear c3
  by_cases c4 : a1 = 0
  ·rw [if_pos c4] at H
   exact absurd H (by simp)
  rw [if_neg c4] at H
  have c4b0 : (a1 == 0) = false := beq_eq_false_iff_ne.mpr c4
  have c4b1 : (a1 != 0) = true := bne_iff_ne.mpr c4
  obtain rfl := Option.some.inj H
  go_enter Try.func29, Try.ntmps29
  go_wp2
  go_ret
  exact ⟨by first | rfl | (simp; done) | (simp [*]; done), by repeat (first | exact Drawn0.refl _ | apply Drawn0.step)⟩
 rw [if_neg c3] at H
 have c3b0 : decide (a0 < 0) = false := decide_eq_false c3
 clear c3
 by_cases c5 : a1 = 0
 ·rw [if_pos c5] at H
  exact absurd H (by simp)
 rw [if_neg c5] at H
 have c5b0 : (a1 == 0) = false := beq_eq_false_iff_ne.mpr c5
 have c5b1 : (a1 != 0) = true := bne_iff_ne.mpr c5
 obtain rfl := Option.some.inj H
 go_enter Try.func29, Try.ntmps29
 go_wp2
 go_ret
 exact ⟨by first | rfl | (simp; done) | (simp [*]; done), by repeat (first | exact Drawn0.refl _ | apply Drawn0.step)⟩
end Go.Proofs.Ytcfinlmocgbnbaa.Pr
end
section
namespace Go.Proofs.Ytcfinlmocgbnbaa.Pr
open Go.Proofs.Ytcfinlmocgbnbaa.Sq Go.RowKit Go.Proofs.YtcfinlmocgbnbaaW.PrintWords Go.Proofs.YtcfinlmocgbnbaaW.PrintLast Go.Proofs.YtcfinlmocgbnbaaW.PrintMore
attribute [local go_sem] max2_int min2_int max_two min_two max_three min_three max_four min_four
set_option linter.unusedVariables false
set_option linter.unusedSimpArgs false
def columbariumlaw15_Text.l0 : Nat → List Int → Int → Int → Option (ByteArray)
 | 0, _, _, _ => none
 | k + 1, x3, x4, x5 => if x5 < x4 then (if x3.length < 140737488355328 then (columbariumlaw15_Text.l0 k (x3 ++ [(wrap64 (97 + (Int.tmod (wrap64 (x5 + x4)) 26))) % 256]) x4 (wrap64 (x5 + 1))) else (none)) else (some (strOfNums x3))
def columbariumlaw15_Text.f (k : Nat) (a0 : Int) : Option (ByteArray) := (columbariumlaw15_pick.f a0 101).bind fun tz1 => (columbariumlaw15_Text.l0 k ([] : List Int) tz1 0)
set_option maxHeartbeats 8000000 in
set_option maxRecDepth 100000 in
theorem columbariumlaw15_Text.calls (k : Nat) (a0 : Int) (r : ByteArray) (w : World) (h : columbariumlaw15_Text.f k a0 = some r) :
  Calls Try.prog 32 #[.int .i64 a0] w fun e w' => e = .returned (.string r) ∧ Below w.heap.size w w' := by
 have HB := am (Below.refl w.heap.size w)
 have H : ((columbariumlaw15_pick.f a0 101).bind fun tz1 => (columbariumlaw15_Text.l0 k ([] : List Int) tz1 0)) = some r := h
 clear h
 replace H := ob_ H
 obtain ⟨tz1, A20, H⟩ := H
 replace H : (columbariumlaw15_Text.l0 k ([] : List Int) tz1 0) = some r := H
 have A2 := Aside0.mk A20
 clear A20
 have H' := am H
 clear H
 go_enter Try.func32, Try.ntmps32
 go_wp2_with (first | ((with_reducible refine gate_callee (f := 29) rfl ?_); refine goesL_ (some 7) rfl rfl Try.func29 (by kernel_rfl) rfl #[.int .i64 a0, .int .i64 101] rfl (by (try simp only [List.map_toArray, List.map_cons, List.map_nil]) <;> rfl) ?_; (with_reducible refine (columbariumlaw15_pick.calls a0 101 tz1 _ A2.out).mono ?_); rintro e w' ⟨rfl, ⟨nd, rfl⟩⟩; refine ⟨_, rfl, ?_⟩))
 go_loopg [3, 5] k (fun kq v3 v5 w' => ∃ (x3_1 : List Int) (x5_1 : Int), v5 = .int .i64 x5_1 ∧ Aside0 (columbariumlaw15_Text.l0 kq x3_1 tz1 x5_1 = some r) ∧ Aside0 (kq ≤ k) ∧ Aside0 (Kd.R (Kd.int .u8) 5 w' w.heap.size (fun _ => True) v3 x3_1) ∧ Aside0 (Below w.heap.size w w'))
 case atStart => exact ⟨(([] : List Int)), (0), (by first | rfl | (simp; done) | (simp [*]; done)), H', ⟨Nat.le_refl _⟩, ⟨by exact Kd.R_nil _ _ _ _ _⟩, ⟨by repeat first | (with_reducible first | exact HB.out | apply ba | apply bn | apply bd | refine bs (by assumption) ?_) | exact HB.out⟩⟩
 clear H'
 try clear c2
 try clear p2
 obtain ⟨x3_1, x5_1, rfl, HA, HK1, HO_3, HB⟩ := hrel
 cases gk with
 | zero => exact absurd HA.out (by simp [columbariumlaw15_Text.l0])
 | succ k1 => ?_
 have H := HA.out
 clear HA
 simp only [columbariumlaw15_Text.l0] at H
 by_cases c3 : x5_1 < tz1
 rotate_left
 ·rw [if_neg c3] at H
  have c3b0 : decide (x5_1 < tz1) = false := decide_eq_false c3
  clear c3
  obtain rfl := Option.some.inj H
  have hcv6 := own_string (P := Try.prog) Try.underlying49 Try.underlying5 Try.underlying9 (Kd.own_of_R HO_3.out)
  go_wp2
  go_ret
  exact ⟨by first | rfl | (simp <;> rfl) | (simp [*] <;> rfl), by repeat first | (with_reducible first | exact HB.out | apply ba | apply bn | apply bd | refine bs (by assumption) ?_) | exact HB.out⟩
 rw [if_pos c3] at H
 have c3b0 : decide (x5_1 < tz1) = true := decide_eq_true c3
 clear c3
 by_cases c4 : x3_1.length < 140737488355328
 rotate_left
 ·rw [if_neg c4] at H
  exact absurd H (by simp)
 rw [if_pos c4] at H
 have LMc4 := Aside0.mk c4
 clear c4
 obtain ⟨yz2, hyz2⟩ : ∃ y_ : List Int, y_ = (x3_1 ++ [(wrap64 (97 + (Int.tmod (wrap64 (x5_1 + tz1)) 26))) % 256]) := ⟨_, rfl⟩
 replace H : (columbariumlaw15_Text.l0 k1 yz2 tz1 (wrap64 (x5_1 + 1))) = some r := by first | (rw [hyz2]; with_reducible exact H) | (have H2_ := (Option.bind_some _ _).symm.trans H; rw [hyz2]; with_reducible exact H2_) | (have H2_ := (Option.bind_some _ _).symm.trans H; with_reducible exact H2_) | with_reducible exact H | (rw [hyz2]; exact H) | exact H
 have Nyz2 := am hyz2
 clear hyz2
 have H' := am H
 clear H
 go_wp2_with (first | ((with_reducible refine gate_builtin (b := .append) (xs := #[.tmp 13, .tmp 20]) rfl ?_); at_builtin; refine Kd.R_append (Kd.int .u8) (w0 := w) w.heap.size rfl (.tmp 13) (.tmp 20) 49 5 (.int .u8 0) 1 rfl Try.underlying49 info5 rfl (by decide) (by omega) u3 x3_1 ((wrap64 (97 + (Int.tmod (wrap64 (x5_1 + tz1)) 26))) % 256) [.int .u8 ((wrap64 (97 + (Int.tmod (wrap64 (x5_1 + tz1)) 26))) % 256)] (fun _ => True) (fun _ => False) rfl rfl ?aP (fun _ hk => hk.elim) ?aF ?aO ?aB ?aS ?aL ?_; (case aP => exact rfl); (case aB => exact (pb HB)); (case aF => exact (fun _ _ => trivial)); (case aO => exact (pr HO_3)); (case aS => exact (below_size (pb HB))); (case aL => have := LMc4.out; omega); intro vz3 w5 ho hb hg hat; rw [← Nyz2.out] at ho; have n0_ := am (hb); have n1_ := am (ho); clear HB; clear HO_3; have HB := n0_; have HOz4 := n1_; clear n0_ n1_; clear ho hb hg hat))
 go_roundg k1
 case measure => have := HK1.out; omega
 case rel => exact ⟨(yz2), (wrap64 (x5_1 + 1)), (by first | rfl | (simp; done) | (simp [*]; done)), H', ⟨by have := HK1.out; omega⟩, ⟨by (with_reducible repeat first | apply ra | apply rn | apply rd); exact HOz4.out⟩, ⟨by repeat first | (with_reducible first | exact HB.out | apply ba | apply bn | apply bd | refine bs (by assumption) ?_) | exact HB.out⟩⟩
end Go.Proofs.Ytcfinlmocgbnbaa.Pr
end
section
namespace Go.Proofs.Ytcfinlmocgbnbaa.Pr
open Go.Proofs.Ytcfinlmocgbnbaa.Sq Go.RowKit Go.Proofs.YtcfinlmocgbnbaaW.PrintWords Go.Proofs.YtcfinlmocgbnbaaW.PrintLast Go.Proofs.YtcfinlmocgbnbaaW.PrintMore
attribute [local go_sem] max2_int min2_int max_two min_two max_three min_three max_four min_four
set_option linter.unusedVariables false
set_option linter.unusedSimpArgs false
mutual
def columbariumref14_New.j0 : Nat → Int → Bool → Option (List ByteArray × (List (S24)) × Int)
 | 0, _, _ => none
 | k + 1, x0, x11 => if x11 = true then (some (([] : List ByteArray), ([] : List (S24)), 1)) else (columbariumref14_New.l0 k x0 0 ([] : List ByteArray))
def columbariumref14_New.l0 : Nat → Int → Int → List ByteArray → Option (List ByteArray × (List (S24)) × Int)
 | 0, _, _, _ => none
 | k + 1, x0, x5, xz3000 => if x5 < x0 then (if 64 ≤ 281474976710656 then (if xz3000.length < 8796093022208 then (columbariumref14_New.l0 k x0 (wrap64 (x5 + 1)) (xz3000 ++ [strOfNums (List.replicate 64 0)])) else (none)) else (none)) else (some (xz3000, ([] : List (S24)), 0))
end
def columbariumref14_New.f (k : Nat) (a0 : Int) : Option (List ByteArray × (List (S24)) × Int) := if a0 < 1 then (columbariumref14_New.j0 k a0 true) else (columbariumref14_New.j0 k a0 (decide (a0 > 400)))
def columbariumref14_New.T7 : Bool × List (List Nat × List Nat) := (true, [([], []), ([0], [0]), ([], []), ([2], [2]), ([3], [3]), ([1, 4], [1, 4]), ([0, 1, 2, 3, 4, 5], []), ([6, 5, 5, 0, 1, 2, 3, 4, 5], [5, 6])])
def columbariumref14_New.B7 : List Nat := [0, 1, 0, 4, 12, 31, 63, 127]
theorem columbariumref14_New.tab7 : rtab .any (opsOf Try.f14 7) = columbariumref14_New.T7 := by kernel_rfl
theorem columbariumref14_New.bits7 : waitsOk columbariumref14_New.T7.2 columbariumref14_New.B7 = true := by kernel_rfl
set_option maxHeartbeats 8000000 in
set_option maxRecDepth 100000 in
theorem columbariumref14_New.calls (k : Nat) (a0 : Int) (r1 : List ByteArray) (r2 : List (S24)) (r3 : Int) (w : World) (h : columbariumref14_New.f k a0 = some (r1, r2, r3)) :
  Calls Try.prog 14 #[.int .i64 a0] w fun e w' => ∃ v0_ v1_ : Value, e = .returned (.tuple #[.agg #[v0_, v1_], .int .i64 r3]) ∧ Kd.R Kd.string 9 w' w.heap.size (fun _ => True) v0_ r1 ∧ Kd.R k24 24 w' w.heap.size (fun _ => True) v1_ r2 ∧ Below w.heap.size w w' := by
 have hu30 := Try.underlying30
 have HB := am (Below.refl w.heap.size w)
 have H : (if a0 < 1 then (columbariumref14_New.j0 k a0 true) else (columbariumref14_New.j0 k a0 (decide (a0 > 400)))) = some (r1, r2, r3) := h
 clear h
 have HC2 := am H
 clear H
 go_enter Try.func14, Try.ntmps14
 go_upto_region 1 with (first | ((with_reducible refine gate_dst (N := 2) rfl ?_); refine box_event ?hg (N := 2) ?hd (cs := #[.slice none 0 0, .slice none 0 0]) (t := 30) ?hr ?_; (case hd => rfl); (case hg => rfl); (case hr => first | (go_simp; done) | (go_simp; rfl)); intro gbz1 hg w3 hbox hb; have n0_ := am (below_step (pb HB) hb); have n1_ := am (hbox); have n2_ := ge_ hg (pb HB); have n3_ := ge_ hg (pb HB); clear HB; have HB := n0_; have BKz1 := n1_; have GWz1 := n2_; have GEz1 := n3_; clear n0_ n1_ n2_ n3_; clear hb hbox hg))
 (try simp only [Act.put, List.setIfInBounds_toArray, List.set_cons_zero, List.set_cons_succ])
 go_cut [11] (fun v11 wc => ∃ (kq : Nat) (x11_1 : Bool), v11 = .bool x11_1 ∧ Aside0 (columbariumref14_New.j0 kq a0 x11_1 = some (r1, r2, r3)) ∧ Aside0 (kq ≤ k) ∧ Aside0 (wc.heap[gbz1]? = some (.cells #[(.slice none 0 0), (.slice none 0 0)] 30 (0, 0))) ∧ Aside0 (Below w.heap.size w wc))
 case first =>
  have H := HC2.out
  clear HC2
  by_cases c4 : a0 < 1
  ·rw [if_pos c4] at H
   have c4b0 : decide (a0 < 1) = true := decide_eq_true c4
   clear c4
   (first | rw [c4b0] | rw [c4b1] | (simp only [i64_w, i32_w]; rw [c4b0]) | skip)
   have H' := am H
   clear H
   go_wp2
   go_meet
   case rel => exact ⟨_, (true), (by first | rfl | (simp; done) | (simp [*]; done)), H', ⟨by first | omega | exact Nat.le_refl _⟩, ⟨by (with_reducible repeat (first | refine blk_drewN ?_ _ | refine bkD ?_ | refine bkA ?_ _)); exact BKz1.out⟩, ⟨by repeat first | (with_reducible first | exact HB.out | apply ba | apply bn | apply bd | refine bs (by assumption) ?_) | exact HB.out⟩⟩
  rw [if_neg c4] at H
  have c4b0 : decide (a0 < 1) = false := decide_eq_false c4
  clear c4
  (first | rw [c4b0] | rw [c4b1] | (simp only [i64_w, i32_w]; rw [c4b0]) | skip)
  have H' := am H
  clear H
  go_wp2
  go_meet
  case rel => exact ⟨_, (decide (a0 > 400)), (by first | rfl | (simp; done) | (simp [*]; done)), H', ⟨by first | omega | exact Nat.le_refl _⟩, ⟨by (with_reducible repeat (first | refine blk_drewN ?_ _ | refine bkD ?_ | refine bkA ?_ _)); exact BKz1.out⟩, ⟨by repeat first | (with_reducible first | exact HB.out | apply ba | apply bn | apply bd | refine bs (by assumption) ?_) | exact HB.out⟩⟩
 clear HC2
 try clear c1
 try clear p2
 try clear c4
 try clear c4b0
 try clear c4b1
 obtain ⟨kq, x11_1, rfl, HA, HJ1, BKz1, HB⟩ := hcut
 cases kq with
 | zero => exact absurd HA.out (by simp [columbariumref14_New.j0])
 | succ kj1 => ?_
 have H := HA.out
 clear HA
 simp only [columbariumref14_New.j0] at H
 by_cases c5 : x11_1 = true
 ·subst c5
  have H1 : (some (([] : List ByteArray), ([] : List (S24)), 1)) = some (r1, r2, r3) := by rw [if_pos rfl] at H; exact H
  clear H
  have H := H1
  clear H1
  simp only [Option.some.injEq, Prod.mk.injEq] at H
  obtain ⟨rfl, rfl, rfl⟩ := H
  obtain ⟨hcz6_0, hcz6_1⟩ := bc2 BKz1
  obtain ⟨hfz6_0, hfz6_1⟩ := bf2 BKz1
  go_wp2
  refine bodyPost_ret (results_ct rfl _ _ gbz1 30 #[.slice none 0 0, .slice none 0 0] (0, 0) _ rfl (by (with_reducible repeat (first | refine blk_drewN ?_ _ | refine bkD ?_ | refine bkA ?_ _)); apply bp2; exact pk BKz1) Try.underlying30 rfl (by kernel_rfl)) rfl ?_
  exact ⟨_, _, by first | rfl | (simp <;> rfl) | (simp [*] <;> rfl), by exact Kd.R_nil _ _ _ _ _, by exact Kd.R_nil _ _ _ _ _, by repeat first | (with_reducible first | exact HB.out | apply ba | apply bn | apply bd | refine bs (by assumption) ?_) | exact HB.out⟩
 replace c5 := Bool.eq_false_iff.mpr c5
 subst c5
 have H1 : (columbariumref14_New.l0 kj1 a0 0 ([] : List ByteArray)) = some (r1, r2, r3) := by rw [if_neg (show ¬ (false = true) by decide)] at H; exact H
 clear H
 have H := H1
 clear H1
 have H' := am H
 clear H
 go_wp2_with (first | ((with_reducible refine gate_dst (N := 4) rfl ?_); refine box_event ?hg (N := 4) ?hd (cs := #[.slice none 0 0, .slice none 0 0]) (t := 30) ?hr ?_; (case hd => rfl); (case hg => rfl); (case hr => first | (go_simp; done) | (go_simp; rfl)); intro gbz2 hg w7 hbox hb; have n0_ := am (bkB (pk BKz1) hb); have n1_ := am (below_step (by repeat first | (with_reducible first | exact HB.out | apply ba | apply bn | apply bd | refine bs (by assumption) ?_) | exact HB.out) hb); have n2_ := am (hbox); have n3_ := ge_ hg (by repeat first | (with_reducible first | exact HB.out | apply ba | apply bn | apply bd | refine bs (by assumption) ?_) | exact HB.out); have n4_ := ge_ hg (by repeat first | (with_reducible first | exact HB.out | apply ba | apply bn | apply bd | refine bs (by assumption) ?_) | exact HB.out); have n5_ := nl_ hg BKz1; have n6_ := ng_ hg BKz1; clear BKz1; clear HB; have BKz1 := n0_; have HB := n1_; have BKz2 := n2_; have GWz2 := n3_; have GEz2 := n4_; have NBz1_z2 := n5_; have NBz2_z1 := n6_; clear n0_ n1_ n2_ n3_ n4_ n5_ n6_; clear hb hbox hg))
 go_loopg [5] kj1 (fun kq v5 w' => ∃ (x5_2 : Int) (xz3000_2 : List ByteArray) (uz3000 : Value), v5 = .int .i64 x5_2 ∧ Aside0 (columbariumref14_New.l0 kq a0 x5_2 xz3000_2 = some (r1, r2, r3)) ∧ Aside0 (kq ≤ kj1) ∧ Aside0 (Kd.R Kd.string 9 w' w.heap.size (fun _ => True) uz3000 xz3000_2) ∧ Aside0 (w'.heap[gbz1]? = some (.cells #[(.slice none 0 0), (.slice none 0 0)] 30 (0, 0))) ∧ Aside0 (w'.heap[gbz2]? = some (.cells #[uz3000, (.slice none 0 0)] 30 (0, 0))) ∧ Aside0 (Below w.heap.size w w'))
 case atStart => exact ⟨(0), (([] : List ByteArray)), (.slice none 0 0), (by first | rfl | (simp; done) | (simp [*]; done)), H', ⟨Nat.le_refl _⟩, ⟨by exact Kd.R_nil _ _ _ _ _⟩, ⟨by (with_reducible repeat (first | refine blk_drewN ?_ _ | refine bkD ?_ | refine bkA ?_ _)); exact BKz1.out⟩, ⟨by (with_reducible repeat (first | refine blk_drewN ?_ _ | refine bkD ?_ | refine bkA ?_ _)); exact BKz2.out⟩, ⟨by repeat first | (with_reducible first | exact HB.out | apply ba | apply bn | apply bd | refine bs (by assumption) ?_) | exact HB.out⟩⟩
 clear H'
 try clear c1
 try clear p2
 try clear c4
 try clear c4b0
 try clear c4b1
 try clear c5
 try clear hcz6_0
 try clear hcz6_1
 try clear hfz6_0
 try clear hfz6_1
 try clear p2
 obtain ⟨x5_2, xz3000_2, uz3000, rfl, HA, HK2, HO_z3000, BKz1, BKz2, HB⟩ := hrel
 cases gk with
 | zero => exact absurd HA.out (by simp [columbariumref14_New.l0])
 | succ k2 => ?_
 have H := HA.out
 clear HA
 simp only [columbariumref14_New.l0] at H
 by_cases c8 : x5_2 < a0
 rotate_left
 ·rw [if_neg c8] at H
  have c8b0 : decide (x5_2 < a0) = false := decide_eq_false c8
  clear c8
  simp only [Option.some.injEq, Prod.mk.injEq] at H
  obtain ⟨rfl, rfl, rfl⟩ := H
  have hnb18 := NBz2_z1.out
  have hnc18 := NBz1_z2.out
  obtain ⟨hcz19_0, hcz19_1⟩ := bc2 BKz2
  obtain ⟨hfz19_0, hfz19_1⟩ := bf2 BKz2
  obtain ⟨Ao20, co20, eo20⟩ := Kd.R_slice HO_z3000.out
  subst eo20
  obtain ⟨hcz21_0, hcz21_1⟩ := bc2 BKz1
  obtain ⟨hfz21_0, hfz21_1⟩ := bf2 BKz1
  go_wp2
  refine bodyPost_ret (results_ct rfl _ _ gbz1 30 #[.slice Ao20 xz3000_2.length co20, .slice none 0 0] (0, 0) _ rfl (by (with_reducible repeat (first | refine blk_drewN ?_ _ | refine bkD ?_ | refine bkA ?_ _)); apply bp2; exact pk BKz1) Try.underlying30 rfl (by kernel_rfl)) rfl ?_
  exact ⟨_, _, by first | rfl | (simp <;> rfl) | (simp [*] <;> rfl), by (with_reducible repeat first | apply ra | apply rn | apply rd); exact Kd.R_mono (rf2 (Kd.R_types HO_z3000.out BKz1.out (by decide)) (fun _ hk => hk.2)) (fun _ hk => trivial), by exact Kd.R_nil _ _ _ _ _, by repeat first | (with_reducible first | exact HB.out | apply ba | apply bn | apply bd | refine bs (by assumption) ?_) | exact HB.out⟩
 rw [if_pos c8] at H
 have c8b0 : decide (x5_2 < a0) = true := decide_eq_true c8
 clear c8
 by_cases c9 : 64 ≤ 281474976710656
 rotate_left
 ·rw [if_neg c9] at H
  exact absurd H (by simp)
 rw [if_pos c9] at H
 have c9b0 := eq_true c9
 have c9b1 : decide (64 ≤ 281474976710656) = true := decide_eq_true c9
 clear c9
 obtain ⟨yz3, hyz3⟩ : ∃ y_ : List Int, y_ = (List.replicate 64 0) := ⟨_, rfl⟩
 replace H : (if xz3000_2.length < 8796093022208 then (columbariumref14_New.l0 k2 a0 (wrap64 (x5_2 + 1)) (xz3000_2 ++ [strOfNums yz3])) else (none)) = some (r1, r2, r3) := by first | (rw [hyz3]; with_reducible exact H) | (have H2_ := (Option.bind_some _ _).symm.trans H; rw [hyz3]; with_reducible exact H2_) | (have H2_ := (Option.bind_some _ _).symm.trans H; with_reducible exact H2_) | with_reducible exact H | (rw [hyz3]; exact H) | exact H
 have Nyz3 := am hyz3
 clear hyz3
 by_cases c10 : xz3000_2.length < 8796093022208
 rotate_left
 ·rw [if_neg c10] at H
  exact absurd H (by simp)
 rw [if_pos c10] at H
 have LMc10 := Aside0.mk c10
 clear c10
 obtain ⟨yz6, hyz6⟩ : ∃ y_ : List ByteArray, y_ = (xz3000_2 ++ [strOfNums yz3]) := ⟨_, rfl⟩
 replace H : (columbariumref14_New.l0 k2 a0 (wrap64 (x5_2 + 1)) yz6) = some (r1, r2, r3) := by first | (rw [hyz6]; with_reducible exact H) | (have H2_ := (Option.bind_some _ _).symm.trans H; rw [hyz6]; with_reducible exact H2_) | (have H2_ := (Option.bind_some _ _).symm.trans H; with_reducible exact H2_) | with_reducible exact H | (rw [hyz6]; exact H) | exact H
 have Nyz6 := am hyz6
 clear hyz6
 have H' := am H
 clear H
 try go_wp2
 have n0_ := am (Kd.R_drew HO_z3000.out)
 have n1_ := am (bkD BKz1.out)
 have n2_ := am (bkD BKz2.out)
 have n3_ := am (below_drew1 HB.out)
 clear HO_z3000 BKz1 BKz2 HB; have HO_z3000 := n0_; have BKz1 := n1_; have BKz2 := n2_; have HB := n3_; clear n0_ n1_ n2_ n3_
 refine start_ (n := 8) (S := fun w' => w'.cell? ⟨gbz2, 0, none⟩ = some (uz3000) ∧ w'.cell? ⟨gbz2, 1, none⟩ = some (.slice none 0 0)) (ds := [7]) #[false, false, false, false, false, false, false, false] (by kernel_rfl) rfl rfl (bc2 BKz2) (fun hHeld => ?_); refine with_tabW columbariumref14_New.tab7 columbariumref14_New.bits7 (fun HT_ HW_ => ?_)
 generalize wr.drew = w11 at HO_z3000 BKz1 BKz2 HB hHeld ⊢
 refine pu_ 0 (some 18) HT_ rfl rfl (.inl ⟨by rfl, by intro w'; go_simp; with_reducible rfl⟩) (by simp only [Act.put, sa_, s0_, s1_, i64_w, i32_w]; rfl) ?_
 refine tk_ 1 (some 19) HT_ HW_ rfl rfl (.inl ⟨by rfl, by rintro w' ⟨s0, s1⟩; go_simp; with_reducible rfl⟩) hHeld (by simp only [Act.put, sa_, s0_, s1_, i64_w, i32_w]; rfl) ?_
 refine on_ 2 (some 20) HT_ rfl rfl (fun K hK => ?_)
 refine Kd.R_make_step (Kd.int .u8) _ 5 (by rfl) (N := 20) rfl 49 _ _ rfl 64 rfl rfl Try.underlying49 (.int .u8 0) 1 info5 rfl (by decide) (by omega) 0 (ok := fun _ => True) (okp := fun _ => True) rfl (fun _ hk => hk) trivial (by omega) (by omega) (Below.refl _ _) (Nat.le_refl _) ?_
 intro vz4 w12 ho13 hb hg_ hnew_
 clear hg_ hnew_
 (first | rw [← Nyz3.out] at ho13 | (simp only [Int.reduceToNat] at ho13; rw [← Nyz3.out] at ho13))
 have n0_ := am (Kd.R_below (pr HO_z3000) hb)
 have n1_ := am (Kd.R_lower ho13 (below_size (by repeat first | (with_reducible first | exact HB.out | apply ba | apply bn | apply bd | refine bs (by assumption) ?_) | exact HB.out)))
 have n2_ := am (bkB (pk BKz1) hb)
 have n3_ := am (bkB (pk BKz2) hb)
 have n4_ := am (below_step (by repeat first | (with_reducible first | exact HB.out | apply ba | apply bn | apply bd | refine bs (by assumption) ?_) | exact HB.out) hb)
 clear HO_z3000 BKz1 BKz2 HB; have HO_z3000 := n0_; have HOz5 := n1_; have BKz1 := n2_; have BKz2 := n3_; have HB := n4_; clear n0_ n1_ n2_ n3_ n4_; clear hb ho13
 refine hK.out _ _ (bc2 BKz2) (fun hHeld => ?_)
 clear hK K
 refine norm_ (by show Act.put _ (some 20) _ = _; simp only [Act.put, sa_, s0_, s1_, i64_w, i32_w]; rfl) ?_
 refine on_ 3 (some 21) HT_ rfl rfl (fun K hK => ?_)
 have hcv14 := own_string (P := Try.prog) Try.underlying49 Try.underlying5 Try.underlying9 (Kd.own_of_R HOz5.out)
 refine value_ (w1 := ?_) (v := ?_) (by rfl) rfl ?_ ?_
 rotate_left 2
 ·go_simp
  constructor
  rotate_left
  ·rfl
  rfl
 clear hcv14
 refine hK.out _ _ (bc2 BKz2) (fun hHeld => ?_)
 clear hK K
 refine norm_ (by show Act.put _ (some 21) _ = _; simp only [Act.put, sa_, s0_, s1_, i64_w, i32_w]; rfl) ?_
 refine on_ 4 (some 22) HT_ rfl rfl (fun K hK => ?_)
 refine value_ (w1 := ?_) (v := ?_) (by rfl) rfl ?_ ?_
 rotate_left 2
 ·go_simp
  constructor
  rotate_left
  ·rfl
  rfl
 refine hK.out _ _ ⟨(blk_cell (bkA BKz2.out _) 0).trans rfl, (blk_cell (bkA BKz2.out _) 1).trans rfl⟩ (fun hHeld => ?_)
 clear hK K
 refine norm_ (by show Act.put _ (some 22) _ = _; simp only [Act.put, sa_, s0_, s1_, i64_w, i32_w]; rfl) ?_
 refine on_ 5 (some 23) HT_ rfl rfl (fun K hK => ?_)
 refine Kd.R_append_step Kd.string (w0 := w) w.heap.size (by rfl) (.tmp 19) (.tmp 22) 27 9 (.string ⟨#[]⟩) 16 rfl Try.underlying27 info9 rfl (by decide) (by omega) uz3000 xz3000_2 (strOfNums yz3) [.string (strOfNums yz3)] (fun _ => True) (fun _ => False) rfl rfl ?aP (fun _ hk => hk.elim) ?aF ?aO ?aB ?aS ?aL ?_
 (case aP => exact rfl)
 (case aB => exact (by repeat first | (with_reducible first | exact HB.out | apply ba | apply bn | apply bd | refine bs (by assumption) ?_) | exact HB.out))
 (case aF => exact (fun _ _ => trivial))
 (case aO => exact (pr HO_z3000))
 (case aS => exact (below_size (by repeat first | (with_reducible first | exact HB.out | apply ba | apply bn | apply bd | refine bs (by assumption) ?_) | exact HB.out)))
 (case aL => have := LMc10.out; omega)
 intro vz7 w15 ho hb hg hat
 rw [← Nyz6.out] at ho
 have n0_ := am (blk_grown (pk BKz1) hg (Kd.R_ne HO_z3000.out BKz1.out (by decide)))
 have n1_ := am (blk_grown (pk BKz2) hg (Kd.R_ne HO_z3000.out BKz2.out (by decide)))
 have n2_ := am (Kd.R_over' (pr HOz5) (Kd.R_typed (pr HO_z3000)) (by decide) hg)
 have n3_ := am (hb)
 have n4_ := am (ho)
 clear BKz1 BKz2 HOz5 HB HO_z3000; have BKz1 := n0_; have BKz2 := n1_; have HOz5 := n2_; have HB := n3_; have HOz8 := n4_; clear n0_ n1_ n2_ n3_ n4_; clear ho hb hg hat
 obtain ⟨Ao16, co16, eo16⟩ := Kd.R_slice HOz8.out
 (first | subst eo16 | (injection eo16 with f1_ f2_ f3_; have f4_ := f1_.symm; have f5_ := f3_.symm; clear f1_ f2_ f3_; subst f4_; subst f5_))
 refine hK.out _ _ (bc2 BKz2) (fun hHeld => ?_)
 clear hK K
 refine norm_ (by show Act.put _ (some 23) _ = _; simp only [Act.put, sa_, s0_, s1_, i64_w, i32_w]; rfl) ?_
 refine pu_ 6 (some 24) HT_ rfl rfl (.inl ⟨by rfl, by intro w'; go_simp; with_reducible rfl⟩) (by simp only [Act.put, sa_, s0_, s1_, i64_w, i32_w]; rfl) ?_
 refine la_ 7 none HT_ rfl rfl (fun K hK => ?_)
 have hs17 : w15.cell? ⟨gbz2, 0, none⟩ = some (uz3000) := (blk_cell BKz2.out 0).trans rfl
 have hfs17 := blk_frozen BKz2.out 0
 have := NBz1_z2.out
 have := NBz2_z1.out
 refine skip_ (by rfl) rfl (by go_simp; rfl) ?_
 refine hK.out _ _ ?_
 clear hK K
 refine done_ (done_of HT_.out (by kernel_rfl)) ?_
 try go_wp2
 go_roundg k2
 case measure => have := HJ1.out; have := HK2.out; omega
 case rel => exact ⟨(wrap64 (x5_2 + 1)), (yz6), (.slice Ao16 yz6.length co16), (by first | rfl | (simp; done) | (simp [*]; done)), H', ⟨by have := HJ1.out; have := HK2.out; omega⟩, ⟨by (with_reducible repeat first | apply ra | apply rn | apply rd); exact Kd.R_mono (rf1 (Kd.R_types HOz8.out BKz2.out (by decide)) (fun _ hk => hk.2)) (fun _ hk => trivial)⟩, ⟨by (with_reducible repeat (first | refine blk_drewN ?_ _ | refine bkD ?_ | refine bkA ?_ _)); refine blk_far ?_ NBz1_z2.out _; (with_reducible repeat (first | refine blk_drewN ?_ _ | refine bkD ?_ | refine bkA ?_ _)); exact BKz1.out⟩, ⟨by (with_reducible repeat (first | refine blk_drewN ?_ _ | refine bkD ?_ | refine bkA ?_ _)); refine blk_put (cs := #[uz3000, .slice none 0 0]) ?_ 0 _ rfl; (with_reducible repeat (first | refine blk_drewN ?_ _ | refine bkD ?_ | refine bkA ?_ _)); exact BKz2.out⟩, ⟨by repeat first | (with_reducible first | exact HB.out | apply ba | apply bn | apply bd | refine bs (by assumption) ?_) | exact HB.out⟩⟩
end Go.Proofs.Ytcfinlmocgbnbaa.Pr
end
section
namespace Go.Proofs.Ytcfinlmocgbnbaa.Pr
open Go.RowKit Go.Proofs.YtcfinlmocgbnbaaW.PrintWords Go.Proofs.YtcfinlmocgbnbaaW.PrintLast Go.Proofs.YtcfinlmocgbnbaaW.PrintMore
attribute [local go_sem] max2_int min2_int max_two min_two max_three min_three max_four min_four
set_option linter.unusedVariables false
set_option linter.unusedSimpArgs false
theorem eqA24 (d : Nat) (w : World) (x0 y0 : Bool) (x1 y1 : Int) (x2 y2 : ByteArray) :
  (Op.equalIn (d + 2) 24 (.agg #[.bool x0, .int .i64 x1, .string x2]) (.agg #[.bool y0, .int .i64 y1, .string y2])).run Try.prog w = .ok (x0 == y0 && (x1 == y1 && (x2.toList == y2.toList))) w := by
 refine eqA_of Try.underlying24 (by kernel_rfl) ?_
 refine eqf_cons (by rfl) (by go_simp; rfl) (by go_simp; rfl) (by go_simp) ?_
 refine eqf_cons (by rfl) (by go_simp; rfl) (by go_simp; rfl) (by go_simp) ?_
 exact eqf_last (by rfl) (by go_simp; rfl) (by go_simp; rfl) (by go_simp)
end Go.Proofs.Ytcfinlmocgbnbaa.Pr
end
section
namespace Go.Proofs.Ytcfinlmocgbnbaa.Pr
open Go.Proofs.Ytcfinlmocgbnbaa.Sq Go.RowKit Go.Proofs.YtcfinlmocgbnbaaW.PrintWords Go.Proofs.YtcfinlmocgbnbaaW.PrintLast Go.Proofs.YtcfinlmocgbnbaaW.PrintMore
attribute [local go_sem] max2_int min2_int max_two min_two max_three min_three max_four min_four
set_option linter.unusedVariables false
set_option linter.unusedSimpArgs false
attribute [local go_sem high] eqA24
mutual
def columbariumref14_Same.j0 : Nat → Bool → List ByteArray → List (S24) → List ByteArray → List (S24) → Option (Bool)
 | 0, _, _, _, _, _ => none
 | k + 1, x22, xz2000, xz2001, xz3000, xz3001 => if x22 = true then (some false) else (columbariumref14_Same.l0 k 0 xz2000 xz2001 xz3000 xz3001)
def columbariumref14_Same.l0 : Nat → Int → List ByteArray → List (S24) → List ByteArray → List (S24) → Option (Bool)
 | 0, _, _, _, _, _ => none
 | k + 1, x5, xz2000, xz2001, xz3000, xz3001 => if x5 < (xz2000.length : Int) then (if 0 ≤ x5 then (if x5 < (xz3000.length : Int) then (if (rdOf ByteArray.empty xz2000 x5).toList = (rdOf ByteArray.empty xz3000 x5).toList then (columbariumref14_Same.l0 k (wrap64 (x5 + 1)) xz2000 xz2001 xz3000 xz3001) else (some false)) else (none)) else (none)) else (columbariumref14_Same.l1 k 0 xz2000 xz2001 xz3000 xz3001)
def columbariumref14_Same.l1 : Nat → Int → List ByteArray → List (S24) → List ByteArray → List (S24) → Option (Bool)
 | 0, _, _, _, _, _ => none
 | k + 1, x6, xz2000, xz2001, xz3000, xz3001 => if x6 < (xz2001.length : Int) then (if 0 ≤ x6 then (if x6 < (xz3001.length : Int) then (if (!(((rd_T24 xz2001 x6).f0) == ((rd_T24 xz3001 x6).f0)) || (!(((rd_T24 xz2001 x6).f1) == ((rd_T24 xz3001 x6).f1)) || (!((((rd_T24 xz2001 x6).f2).toList) == (((rd_T24 xz3001 x6).f2).toList))))) = true then (some false) else (columbariumref14_Same.l1 k (wrap64 (x6 + 1)) xz2000 xz2001 xz3000 xz3001)) else (none)) else (none)) else (some true)
end
def columbariumref14_Same.f (k : Nat) (l0_0 : List ByteArray) (l0_1 : List (S24)) (l1_0 : List ByteArray) (l1_1 : List (S24)) : Option (Bool) := if (l0_0.length : Int) = (l1_0.length : Int) then (columbariumref14_Same.j0 k ((l0_1.length : Int) != (l1_1.length : Int)) l0_0 l0_1 l1_0 l1_1) else (columbariumref14_Same.j0 k true l0_0 l0_1 l1_0 l1_1)
set_option maxHeartbeats 8000000 in
set_option maxRecDepth 100000 in
theorem columbariumref14_Same.calls (k : Nat) (A0_0 : Option Addr) (c0_0 : Nat) (l0_0 : List ByteArray) (A0_1 : Option Addr) (c0_1 : Nat) (l0_1 : List (S24)) (A1_0 : Option Addr) (c1_0 : Nat) (l1_0 : List ByteArray) (A1_1 : Option Addr) (c1_1 : Nat) (l1_1 : List (S24)) (r : Bool) (w : World) (hr0_0 : Kd.C Kd.string w A0_0 l0_0.length l0_0) (hc0_0 : l0_0.length ≤ c0_0) (hr0_1 : Kd.C k24 w A0_1 l0_1.length l0_1) (hc0_1 : l0_1.length ≤ c0_1) (hr1_0 : Kd.C Kd.string w A1_0 l1_0.length l1_0) (hc1_0 : l1_0.length ≤ c1_0) (hr1_1 : Kd.C k24 w A1_1 l1_1.length l1_1) (hc1_1 : l1_1.length ≤ c1_1) (h : columbariumref14_Same.f k l0_0 l0_1 l1_0 l1_1 = some r) :
  Calls Try.prog 15 #[.agg #[.slice A0_0 l0_0.length c0_0, .slice A0_1 l0_1.length c0_1], .agg #[.slice A1_0 l1_0.length c1_0, .slice A1_1 l1_1.length c1_1]] w fun e w' => e = .returned (.bool r) ∧ Below w.heap.size w w' := by
 have hu30 := Try.underlying30
 have hu24 := Try.underlying24
 have HR0_0 := am hr0_0
 have HC0_0 := am hc0_0
 clear hr0_0 hc0_0
 have HR0_1 := am hr0_1
 have HC0_1 := am hc0_1
 clear hr0_1 hc0_1
 have HR1_0 := am hr1_0
 have HC1_0 := am hc1_0
 clear hr1_0 hc1_0
 have HR1_1 := am hr1_1
 have HC1_1 := am hc1_1
 clear hr1_1 hc1_1
 have HB := am (Below.refl w.heap.size w)
 have H : (if (l0_0.length : Int) = (l1_0.length : Int) then (columbariumref14_Same.j0 k ((l0_1.length : Int) != (l1_1.length : Int)) l0_0 l0_1 l1_0 l1_1) else (columbariumref14_Same.j0 k true l0_0 l0_1 l1_0 l1_1)) = some r := h
 clear h
 have HC3 := am H
 clear H
 go_enter Try.func15, Try.ntmps15
 go_upto_region 1 with (first | ((with_reducible refine gate_dst (N := 2) rfl ?_); (try (refine gate_guard (by rfl) ?_; dsimp only)); refine box_event ?hg (N := 2) ?hd (cs := #[.slice A0_0 l0_0.length c0_0, .slice A0_1 l0_1.length c0_1]) (t := 30) ?hr ?_; (case hd => rfl); (case hg => rfl); (case hr => first | (go_simp; done) | (go_simp; rfl)); intro gbz1 hg w4 hbox hb; have n0_ := am (below_step (pb HB) hb); have n1_ := am (hbox); have n2_ := ge_ hg (pb HB); have n3_ := ge_ hg (pb HB); clear HB; have HB := n0_; have BKz1 := n1_; have GWz1 := n2_; have GEz1 := n3_; clear n0_ n1_ n2_ n3_; clear hb hbox hg) | ((with_reducible refine gate_dst (N := 3) rfl ?_); (try (refine gate_guard (by rfl) ?_; dsimp only)); refine box_event ?hg (N := 3) ?hd (cs := #[.slice A1_0 l1_0.length c1_0, .slice A1_1 l1_1.length c1_1]) (t := 30) ?hr ?_; (case hd => rfl); (case hg => rfl); (case hr => first | (go_simp; done) | (go_simp; rfl)); intro gbz2 hg w5 hbox hb; have n0_ := am (bkB (pk BKz1) hb); have n1_ := am (below_step (by repeat first | (with_reducible first | exact HB.out | apply ba | apply bn | apply bd | refine bs (by assumption) ?_) | exact HB.out) hb); have n2_ := am (hbox); have n3_ := ge_ hg (by repeat first | (with_reducible first | exact HB.out | apply ba | apply bn | apply bd | refine bs (by assumption) ?_) | exact HB.out); have n4_ := ge_ hg (by repeat first | (with_reducible first | exact HB.out | apply ba | apply bn | apply bd | refine bs (by assumption) ?_) | exact HB.out); have n5_ := nl_ hg BKz1; have n6_ := ng_ hg BKz1; clear BKz1; clear HB; have BKz1 := n0_; have HB := n1_; have BKz2 := n2_; have GWz2 := n3_; have GEz2 := n4_; have NBz1_z2 := n5_; have NBz2_z1 := n6_; clear n0_ n1_ n2_ n3_ n4_ n5_ n6_; clear hb hbox hg))
 repeat (go_quiet (first | ((with_reducible refine gate_dst (N := 2) rfl ?_); (try (refine gate_guard (by rfl) ?_; dsimp only)); refine box_event ?hg (N := 2) ?hd (cs := #[.slice A0_0 l0_0.length c0_0, .slice A0_1 l0_1.length c0_1]) (t := 30) ?hr ?_; (case hd => rfl); (case hg => rfl); (case hr => first | (go_simp; done) | (go_simp; rfl)); intro gbz1 hg w4 hbox hb; have n0_ := am (below_step (pb HB) hb); have n1_ := am (hbox); have n2_ := ge_ hg (pb HB); have n3_ := ge_ hg (pb HB); clear HB; have HB := n0_; have BKz1 := n1_; have GWz1 := n2_; have GEz1 := n3_; clear n0_ n1_ n2_ n3_; clear hb hbox hg) | ((with_reducible refine gate_dst (N := 3) rfl ?_); (try (refine gate_guard (by rfl) ?_; dsimp only)); refine box_event ?hg (N := 3) ?hd (cs := #[.slice A1_0 l1_0.length c1_0, .slice A1_1 l1_1.length c1_1]) (t := 30) ?hr ?_; (case hd => rfl); (case hg => rfl); (case hr => first | (go_simp; done) | (go_simp; rfl)); intro gbz2 hg w5 hbox hb; have n0_ := am (bkB (pk BKz1) hb); have n1_ := am (below_step (by repeat first | (with_reducible first | exact HB.out | apply ba | apply bn | apply bd | refine bs (by assumption) ?_) | exact HB.out) hb); have n2_ := am (hbox); have n3_ := ge_ hg (by repeat first | (with_reducible first | exact HB.out | apply ba | apply bn | apply bd | refine bs (by assumption) ?_) | exact HB.out); have n4_ := ge_ hg (by repeat first | (with_reducible first | exact HB.out | apply ba | apply bn | apply bd | refine bs (by assumption) ?_) | exact HB.out); have n5_ := nl_ hg BKz1; have n6_ := ng_ hg BKz1; clear BKz1; clear HB; have BKz1 := n0_; have HB := n1_; have BKz2 := n2_; have GWz2 := n3_; have GEz2 := n4_; have NBz1_z2 := n5_; have NBz2_z1 := n6_; clear n0_ n1_ n2_ n3_ n4_ n5_ n6_; clear hb hbox hg)); go_upto_region 1 with (first | ((with_reducible refine gate_dst (N := 2) rfl ?_); (try (refine gate_guard (by rfl) ?_; dsimp only)); refine box_event ?hg (N := 2) ?hd (cs := #[.slice A0_0 l0_0.length c0_0, .slice A0_1 l0_1.length c0_1]) (t := 30) ?hr ?_; (case hd => rfl); (case hg => rfl); (case hr => first | (go_simp; done) | (go_simp; rfl)); intro gbz1 hg w4 hbox hb; have n0_ := am (below_step (pb HB) hb); have n1_ := am (hbox); have n2_ := ge_ hg (pb HB); have n3_ := ge_ hg (pb HB); clear HB; have HB := n0_; have BKz1 := n1_; have GWz1 := n2_; have GEz1 := n3_; clear n0_ n1_ n2_ n3_; clear hb hbox hg) | ((with_reducible refine gate_dst (N := 3) rfl ?_); (try (refine gate_guard (by rfl) ?_; dsimp only)); refine box_event ?hg (N := 3) ?hd (cs := #[.slice A1_0 l1_0.length c1_0, .slice A1_1 l1_1.length c1_1]) (t := 30) ?hr ?_; (case hd => rfl); (case hg => rfl); (case hr => first | (go_simp; done) | (go_simp; rfl)); intro gbz2 hg w5 hbox hb; have n0_ := am (bkB (pk BKz1) hb); have n1_ := am (below_step (by repeat first | (with_reducible first | exact HB.out | apply ba | apply bn | apply bd | refine bs (by assumption) ?_) | exact HB.out) hb); have n2_ := am (hbox); have n3_ := ge_ hg (by repeat first | (with_reducible first | exact HB.out | apply ba | apply bn | apply bd | refine bs (by assumption) ?_) | exact HB.out); have n4_ := ge_ hg (by repeat first | (with_reducible first | exact HB.out | apply ba | apply bn | apply bd | refine bs (by assumption) ?_) | exact HB.out); have n5_ := nl_ hg BKz1; have n6_ := ng_ hg BKz1; clear BKz1; clear HB; have BKz1 := n0_; have HB := n1_; have BKz2 := n2_; have GWz2 := n3_; have GEz2 := n4_; have NBz1_z2 := n5_; have NBz2_z1 := n6_; clear n0_ n1_ n2_ n3_ n4_ n5_ n6_; clear hb hbox hg)))
 (try simp only [Act.put, List.setIfInBounds_toArray, List.set_cons_zero, List.set_cons_succ])
 go_cut [22] (fun v22 wc => ∃ (kq : Nat) (x22_2 : Bool), v22 = .bool x22_2 ∧ Aside0 (columbariumref14_Same.j0 kq x22_2 l0_0 l0_1 l1_0 l1_1 = some r) ∧ Aside0 (kq ≤ k) ∧ Aside0 (wc.heap[gbz1]? = some (.cells #[(.slice A0_0 l0_0.length c0_0), (.slice A0_1 l0_1.length c0_1)] 30 (0, 0))) ∧ Aside0 (wc.heap[gbz2]? = some (.cells #[(.slice A1_0 l1_0.length c1_0), (.slice A1_1 l1_1.length c1_1)] 30 (0, 0))) ∧ Aside0 (Below w.heap.size w wc))
 case first =>
  have H := HC3.out
  clear HC3
  by_cases c6 : (l0_0.length : Int) = (l1_0.length : Int)
  rotate_left
  ·rw [if_neg c6] at H
   have c6b0 : ((l0_0.length : Int) == (l1_0.length : Int)) = false := beq_eq_false_iff_ne.mpr c6
   have c6b1 : ((l0_0.length : Int) != (l1_0.length : Int)) = true := bne_iff_ne.mpr c6
   have c6b2 : (l0_0.length == l1_0.length) = false := by first | simpa using c6 | (simp at c6 ⊢; omega)
   (first | rw [c6b0] | rw [c6b1] | (simp only [i64_w, i32_w]; rw [c6b0]) | skip)
   have H' := am H
   clear H
   have hnb10 := NBz1_z2.out
   have hnc10 := NBz2_z1.out
   obtain ⟨hcz11_0, hcz11_1⟩ := bc2 BKz1
   obtain ⟨hfz11_0, hfz11_1⟩ := bf2 BKz1
   obtain ⟨hcz12_0, hcz12_1⟩ := bc2 BKz2
   obtain ⟨hfz12_0, hfz12_1⟩ := bf2 BKz2
   go_wp2
   repeat (go_quiet (fail); try go_wp2)
   go_meet
   case rel => exact ⟨_, (true), (by first | rfl | (simp; done) | (simp [*]; done)), H', ⟨by first | omega | exact Nat.le_refl _⟩, ⟨by (with_reducible repeat (first | refine blk_drewN ?_ _ | refine bkD ?_ | refine bkA ?_ _)); exact BKz1.out⟩, ⟨by (with_reducible repeat (first | refine blk_drewN ?_ _ | refine bkD ?_ | refine bkA ?_ _)); exact BKz2.out⟩, ⟨by repeat first | (with_reducible first | exact HB.out | apply ba | apply bn | apply bd | refine bs (by assumption) ?_) | exact HB.out⟩⟩
  rw [if_pos c6] at H
  have c6b0 : ((l0_0.length : Int) == (l1_0.length : Int)) = true := beq_iff_eq.mpr c6
  have c6b1 : ((l0_0.length : Int) != (l1_0.length : Int)) = false := bne_eq_false_iff_eq.mpr c6
  have c6b2 : (l0_0.length == l1_0.length) = true := by first | simpa using c6 | (simp at c6 ⊢; omega)
  clear c6
  (first | rw [c6b0] | rw [c6b1] | (simp only [i64_w, i32_w]; rw [c6b0]) | skip)
  have H' := am H
  clear H
  have hnb7 := NBz1_z2.out
  have hnc7 := NBz2_z1.out
  obtain ⟨hcz8_0, hcz8_1⟩ := bc2 BKz1
  obtain ⟨hfz8_0, hfz8_1⟩ := bf2 BKz1
  obtain ⟨hcz9_0, hcz9_1⟩ := bc2 BKz2
  obtain ⟨hfz9_0, hfz9_1⟩ := bf2 BKz2
  go_wp2
  repeat (go_quiet (fail); try go_wp2)
  go_meet
  case rel => exact ⟨_, (((l0_1.length : Int) != (l1_1.length : Int))), (by first | rfl | (simp; done) | (simp [*]; done)), H', ⟨by first | omega | exact Nat.le_refl _⟩, ⟨by (with_reducible repeat (first | refine blk_drewN ?_ _ | refine bkD ?_ | refine bkA ?_ _)); exact BKz1.out⟩, ⟨by (with_reducible repeat (first | refine blk_drewN ?_ _ | refine bkD ?_ | refine bkA ?_ _)); exact BKz2.out⟩, ⟨by repeat first | (with_reducible first | exact HB.out | apply ba | apply bn | apply bd | refine bs (by assumption) ?_) | exact HB.out⟩⟩
 clear HC3
 try clear c1
 try clear p2
 try clear c6
 try clear c6b0
 try clear c6b1
 try clear c6b2
 try clear c7
 try clear c10
 try clear hcz11_0
 try clear hcz11_1
 try clear hcz12_0
 try clear hcz12_1
 try clear hcz8_0
 try clear hcz8_1
 try clear hcz9_0
 try clear hcz9_1
 try clear hfz11_0
 try clear hfz11_1
 try clear hfz12_0
 try clear hfz12_1
 try clear hfz8_0
 try clear hfz8_1
 try clear hfz9_0
 try clear hfz9_1
 obtain ⟨kq, x22_2, rfl, HA, HJ2, BKz1, BKz2, HB⟩ := hcut
 cases kq with
 | zero => exact absurd HA.out (by simp [columbariumref14_Same.j0])
 | succ kj2 => ?_
 have H := HA.out
 clear HA
 simp only [columbariumref14_Same.j0] at H
 by_cases c13 : x22_2 = true
 ·subst c13
  have H1 : (some false) = some r := by rw [if_pos rfl] at H; exact H
  clear H
  have H := H1
  clear H1
  obtain rfl := Option.some.inj H
  go_wp2
  repeat (go_quiet (fail); try go_wp2)
  go_ret
  exact ⟨by first | rfl | (simp <;> rfl) | (simp [*] <;> rfl), by repeat first | (with_reducible first | exact HB.out | apply ba | apply bn | apply bd | refine bs (by assumption) ?_) | exact HB.out⟩
 replace c13 := Bool.eq_false_iff.mpr c13
 subst c13
 have H1 : (columbariumref14_Same.l0 kj2 0 l0_0 l0_1 l1_0 l1_1) = some r := by rw [if_neg (show ¬ (false = true) by decide)] at H; exact H
 clear H
 have H := H1
 clear H1
 have H' := am H
 clear H
 go_wp2
 repeat (go_quiet (fail); try go_wp2)
 go_loopg [5] kj2 (fun kq v5 w' => ∃ (x5_2 : Int), v5 = .int .i64 x5_2 ∧ Aside0 (columbariumref14_Same.l0 kq x5_2 l0_0 l0_1 l1_0 l1_1 = some r) ∧ Aside0 (kq ≤ kj2) ∧ Aside0 (w'.heap[gbz1]? = some (.cells #[(.slice A0_0 l0_0.length c0_0), (.slice A0_1 l0_1.length c0_1)] 30 (0, 0))) ∧ Aside0 (w'.heap[gbz2]? = some (.cells #[(.slice A1_0 l1_0.length c1_0), (.slice A1_1 l1_1.length c1_1)] 30 (0, 0))) ∧ Aside0 (Below w.heap.size w w'))
 case atStart => exact ⟨(0), (by first | rfl | (simp; done) | (simp [*]; done)), H', ⟨Nat.le_refl _⟩, ⟨by (with_reducible repeat (first | refine blk_drewN ?_ _ | refine bkD ?_ | refine bkA ?_ _)); exact BKz1.out⟩, ⟨by (with_reducible repeat (first | refine blk_drewN ?_ _ | refine bkD ?_ | refine bkA ?_ _)); exact BKz2.out⟩, ⟨by repeat first | (with_reducible first | exact HB.out | apply ba | apply bn | apply bd | refine bs (by assumption) ?_) | exact HB.out⟩⟩
 clear H'
 try clear c1
 try clear p2
 try clear c6
 try clear c6b0
 try clear c6b1
 try clear c6b2
 try clear c7
 try clear c10
 try clear c13
 try clear hcz11_0
 try clear hcz11_1
 try clear hcz12_0
 try clear hcz12_1
 try clear hcz8_0
 try clear hcz8_1
 try clear hcz9_0
 try clear hcz9_1
 try clear hfz11_0
 try clear hfz11_1
 try clear hfz12_0
 try clear hfz12_1
 try clear hfz8_0
 try clear hfz8_1
 try clear hfz9_0
 try clear hfz9_1
 try clear p2
 obtain ⟨x5_2, rfl, HA, HK2, BKz1, BKz2, HB⟩ := hrel
 cases gk with
 | zero => exact absurd HA.out (by simp [columbariumref14_Same.l0])
 | succ k2 => ?_
 have H := HA.out
 clear HA
 simp only [columbariumref14_Same.l0] at H
 by_cases c14 : x5_2 < (l0_0.length : Int)
 ·rw [if_pos c14] at H
  have c14b0 : decide (x5_2 < (l0_0.length : Int)) = true := decide_eq_true c14
  clear c14
  by_cases c15 : 0 ≤ x5_2
  rotate_left
  ·rw [if_neg c15] at H
   exact absurd H (by simp)
  rw [if_pos c15] at H
  have c15b0 : decide (0 ≤ x5_2) = true := decide_eq_true c15
  clear c15
  by_cases c16 : x5_2 < (l1_0.length : Int)
  rotate_left
  ·rw [if_neg c16] at H
   exact absurd H (by simp)
  rw [if_pos c16] at H
  have c16b0 : decide (x5_2 < (l1_0.length : Int)) = true := decide_eq_true c16
  clear c16
  by_cases c17 : (rdOf ByteArray.empty l0_0 x5_2).toList = (rdOf ByteArray.empty l1_0 x5_2).toList
  rotate_left
  ·rw [if_neg c17] at H
   have c17b0 : ((rdOf ByteArray.empty l0_0 x5_2).toList == (rdOf ByteArray.empty l1_0 x5_2).toList) = false := beq_eq_false_iff_ne.mpr c17
   have c17b1 : ((rdOf ByteArray.empty l0_0 x5_2).toList != (rdOf ByteArray.empty l1_0 x5_2).toList) = true := bne_iff_ne.mpr c17
   obtain rfl := Option.some.inj H
   have hnb21 := NBz1_z2.out
   have hnc21 := NBz2_z1.out
   obtain ⟨hcz22_0, hcz22_1⟩ := bc2 BKz1
   obtain ⟨hfz22_0, hfz22_1⟩ := bf2 BKz1
   have pz3 : 0 ≤ (x5_2 : Int) := of_decide_eq_true (by first | (with_reducible assumption) | assumption)
   have qz3 : x5_2 < (l0_0.length : Int) := of_decide_eq_true (by first | (with_reducible assumption) | assumption)
   obtain ⟨adz3, ez3, hxz3_0⟩ := Kd.at_string HR0_0.out x5_2 pz3 qz3
   cases ez3
   replace hxz3_0 := (HB.out.cell (World.block_lt_of_cell? w _ hxz3_0)).trans hxz3_0
   replace pz3 := eq_true pz3
   replace qz3 := eq_true qz3
   obtain ⟨hcz23_0, hcz23_1⟩ := bc2 BKz2
   obtain ⟨hfz23_0, hfz23_1⟩ := bf2 BKz2
   have pz4 : 0 ≤ (x5_2 : Int) := of_decide_eq_true (by first | (with_reducible assumption) | assumption)
   have qz4 : x5_2 < (l1_0.length : Int) := of_decide_eq_true (by first | (with_reducible assumption) | assumption)
   obtain ⟨adz4, ez4, hxz4_0⟩ := Kd.at_string HR1_0.out x5_2 pz4 qz4
   cases ez4
   replace hxz4_0 := (HB.out.cell (World.block_lt_of_cell? w _ hxz4_0)).trans hxz4_0
   replace pz4 := eq_true pz4
   replace qz4 := eq_true qz4
   go_wp2
   repeat (go_quiet (fail); try go_wp2)
   go_ret
   exact ⟨by first | rfl | (simp <;> rfl) | (simp [*] <;> rfl), by repeat first | (with_reducible first | exact HB.out | apply ba | apply bn | apply bd | refine bs (by assumption) ?_) | exact HB.out⟩
  rw [if_pos c17] at H
  have c17b0 : ((rdOf ByteArray.empty l0_0 x5_2).toList == (rdOf ByteArray.empty l1_0 x5_2).toList) = true := beq_iff_eq.mpr c17
  have c17b1 : ((rdOf ByteArray.empty l0_0 x5_2).toList != (rdOf ByteArray.empty l1_0 x5_2).toList) = false := bne_eq_false_iff_eq.mpr c17
  clear c17
  have H' := am H
  clear H
  have hnb18 := NBz1_z2.out
  have hnc18 := NBz2_z1.out
  obtain ⟨hcz19_0, hcz19_1⟩ := bc2 BKz1
  obtain ⟨hfz19_0, hfz19_1⟩ := bf2 BKz1
  have pz3 : 0 ≤ (x5_2 : Int) := of_decide_eq_true (by first | (with_reducible assumption) | assumption)
  have qz3 : x5_2 < (l0_0.length : Int) := of_decide_eq_true (by first | (with_reducible assumption) | assumption)
  obtain ⟨adz3, ez3, hxz3_0⟩ := Kd.at_string HR0_0.out x5_2 pz3 qz3
  cases ez3
  replace hxz3_0 := (HB.out.cell (World.block_lt_of_cell? w _ hxz3_0)).trans hxz3_0
  replace pz3 := eq_true pz3
  replace qz3 := eq_true qz3
  obtain ⟨hcz20_0, hcz20_1⟩ := bc2 BKz2
  obtain ⟨hfz20_0, hfz20_1⟩ := bf2 BKz2
  have pz4 : 0 ≤ (x5_2 : Int) := of_decide_eq_true (by first | (with_reducible assumption) | assumption)
  have qz4 : x5_2 < (l1_0.length : Int) := of_decide_eq_true (by first | (with_reducible assumption) | assumption)
  obtain ⟨adz4, ez4, hxz4_0⟩ := Kd.at_string HR1_0.out x5_2 pz4 qz4
  cases ez4
  replace hxz4_0 := (HB.out.cell (World.block_lt_of_cell? w _ hxz4_0)).trans hxz4_0
  replace pz4 := eq_true pz4
  replace qz4 := eq_true qz4
  go_wp2
  repeat (go_quiet (fail); try go_wp2)
  go_roundg k2
  case measure => have := HJ2.out; have := HK2.out; omega
  case rel => exact ⟨(wrap64 (x5_2 + 1)), (by first | rfl | (simp; done) | (simp [*]; done)), H', ⟨by have := HJ2.out; have := HK2.out; omega⟩, ⟨by (with_reducible repeat (first | refine blk_drewN ?_ _ | refine bkD ?_ | refine bkA ?_ _)); exact BKz1.out⟩, ⟨by (with_reducible repeat (first | refine blk_drewN ?_ _ | refine bkD ?_ | refine bkA ?_ _)); exact BKz2.out⟩, ⟨by repeat first | (with_reducible first | exact HB.out | apply ba | apply bn | apply bd | refine bs (by assumption) ?_) | exact HB.out⟩⟩
 rw [if_neg c14] at H
 have c14b0 : decide (x5_2 < (l0_0.length : Int)) = false := decide_eq_false c14
 clear c14
 have H' := am H
 clear H
 have hnb24 := NBz1_z2.out
 have hnc24 := NBz2_z1.out
 obtain ⟨hcz25_0, hcz25_1⟩ := bc2 BKz1
 obtain ⟨hfz25_0, hfz25_1⟩ := bf2 BKz1
 go_wp2
 repeat (go_quiet (fail); try go_wp2)
 go_loopg [6] k2 (fun kq v6 w' => ∃ (x6_3 : Int), v6 = .int .i64 x6_3 ∧ Aside0 (columbariumref14_Same.l1 kq x6_3 l0_0 l0_1 l1_0 l1_1 = some r) ∧ Aside0 (kq ≤ k2) ∧ Aside0 (w'.heap[gbz1]? = some (.cells #[(.slice A0_0 l0_0.length c0_0), (.slice A0_1 l0_1.length c0_1)] 30 (0, 0))) ∧ Aside0 (w'.heap[gbz2]? = some (.cells #[(.slice A1_0 l1_0.length c1_0), (.slice A1_1 l1_1.length c1_1)] 30 (0, 0))) ∧ Aside0 (Below w.heap.size w w'))
 case atStart => exact ⟨(0), (by first | rfl | (simp; done) | (simp [*]; done)), H', ⟨Nat.le_refl _⟩, ⟨by (with_reducible repeat (first | refine blk_drewN ?_ _ | refine bkD ?_ | refine bkA ?_ _)); exact BKz1.out⟩, ⟨by (with_reducible repeat (first | refine blk_drewN ?_ _ | refine bkD ?_ | refine bkA ?_ _)); exact BKz2.out⟩, ⟨by repeat first | (with_reducible first | exact HB.out | apply ba | apply bn | apply bd | refine bs (by assumption) ?_) | exact HB.out⟩⟩
 clear H'
 try clear c1
 try clear p1
 try clear q1
 try clear hx1
 try clear c2
 try clear p2
 try clear c6
 try clear c6b0
 try clear c6b1
 try clear c6b2
 try clear p6
 try clear c7
 try clear c10
 try clear c13
 try clear c14
 try clear c14b0
 try clear c15
 try clear c15b0
 try clear p15
 try clear q15
 try clear hx15
 try clear c16
 try clear c16b0
 try clear c17
 try clear c17b0
 try clear c17b1
 try clear c18
 try clear c21
 try clear c24
 try clear hcz11_0
 try clear hcz11_1
 try clear hcz12_0
 try clear hcz12_1
 try clear hcz19_0
 try clear hcz19_1
 try clear hcz20_0
 try clear hcz20_1
 try clear hcz22_0
 try clear hcz22_1
 try clear hcz23_0
 try clear hcz23_1
 try clear hcz25_0
 try clear hcz25_1
 try clear hcz8_0
 try clear hcz8_1
 try clear hcz9_0
 try clear hcz9_1
 try clear hfz11_0
 try clear hfz11_1
 try clear hfz12_0
 try clear hfz12_1
 try clear hfz19_0
 try clear hfz19_1
 try clear hfz20_0
 try clear hfz20_1
 try clear hfz22_0
 try clear hfz22_1
 try clear hfz23_0
 try clear hfz23_1
 try clear hfz25_0
 try clear hfz25_1
 try clear hfz8_0
 try clear hfz8_1
 try clear hfz9_0
 try clear hfz9_1
 try clear hxz3_0
 try clear hxz4_0
 try clear pz3
 try clear pz4
 try clear p2
 try clear qz3
 try clear qz4
 obtain ⟨x6_3, rfl, HA, HK3, BKz1, BKz2, HB⟩ := hrel
 cases gk with
 | zero => exact absurd HA.out (by simp [columbariumref14_Same.l1])
 | succ k3 => ?_
 have H := HA.out
 clear HA
 simp only [columbariumref14_Same.l1] at H
 by_cases c26 : x6_3 < (l0_1.length : Int)
 rotate_left
 ·rw [if_neg c26] at H
  have c26b0 : decide (x6_3 < (l0_1.length : Int)) = false := decide_eq_false c26
  clear c26
  obtain rfl := Option.some.inj H
  have hnb36 := NBz1_z2.out
  have hnc36 := NBz2_z1.out
  obtain ⟨hcz37_0, hcz37_1⟩ := bc2 BKz1
  obtain ⟨hfz37_0, hfz37_1⟩ := bf2 BKz1
  go_wp2
  repeat (go_quiet (fail); try go_wp2)
  go_ret
  exact ⟨by first | rfl | (simp <;> rfl) | (simp [*] <;> rfl), by repeat first | (with_reducible first | exact HB.out | apply ba | apply bn | apply bd | refine bs (by assumption) ?_) | exact HB.out⟩
 rw [if_pos c26] at H
 have c26b0 : decide (x6_3 < (l0_1.length : Int)) = true := decide_eq_true c26
 clear c26
 by_cases c27 : 0 ≤ x6_3
 rotate_left
 ·rw [if_neg c27] at H
  exact absurd H (by simp)
 rw [if_pos c27] at H
 have c27b0 : decide (0 ≤ x6_3) = true := decide_eq_true c27
 clear c27
 by_cases c28 : x6_3 < (l1_1.length : Int)
 rotate_left
 ·rw [if_neg c28] at H
  exact absurd H (by simp)
 rw [if_pos c28] at H
 have c28b0 : decide (x6_3 < (l1_1.length : Int)) = true := decide_eq_true c28
 clear c28
 by_cases c29 : (!(((rd_T24 l0_1 x6_3).f0) == ((rd_T24 l1_1 x6_3).f0)) || (!(((rd_T24 l0_1 x6_3).f1) == ((rd_T24 l1_1 x6_3).f1)) || (!((((rd_T24 l0_1 x6_3).f2).toList) == (((rd_T24 l1_1 x6_3).f2).toList))))) = true
 ·rw [if_pos c29] at H
  have c29b0 : (!(((rd_T24 l0_1 x6_3).f0) == ((rd_T24 l1_1 x6_3).f0)) || (!(((rd_T24 l0_1 x6_3).f1) == ((rd_T24 l1_1 x6_3).f1)) || (!((((rd_T24 l0_1 x6_3).f2).toList) == (((rd_T24 l1_1 x6_3).f2).toList))))) = true := c29
  clear c29
  obtain rfl := Option.some.inj H
  have hnb30 := NBz1_z2.out
  have hnc30 := NBz2_z1.out
  obtain ⟨hcz31_0, hcz31_1⟩ := bc2 BKz1
  obtain ⟨hfz31_0, hfz31_1⟩ := bf2 BKz1
  have pz5 : 0 ≤ (x6_3 : Int) := of_decide_eq_true (by first | (with_reducible assumption) | assumption)
  have qz5 : x6_3 < (l0_1.length : Int) := of_decide_eq_true (by first | (with_reducible assumption) | assumption)
  obtain ⟨adz5, ez5, hxz5_0, hxz5_1, hxz5_2⟩ := at_T24 HR0_1.out x6_3 pz5 qz5
  cases ez5
  replace hxz5_0 := (HB.out.cell (World.block_lt_of_cell? w _ hxz5_0)).trans hxz5_0
  replace hxz5_1 := (HB.out.cell (World.block_lt_of_cell? w _ hxz5_1)).trans hxz5_1
  replace hxz5_2 := (HB.out.cell (World.block_lt_of_cell? w _ hxz5_2)).trans hxz5_2
  replace pz5 := eq_true pz5
  replace qz5 := eq_true qz5
  obtain ⟨hcz32_0, hcz32_1⟩ := bc2 BKz2
  obtain ⟨hfz32_0, hfz32_1⟩ := bf2 BKz2
  have pz6 : 0 ≤ (x6_3 : Int) := of_decide_eq_true (by first | (with_reducible assumption) | assumption)
  have qz6 : x6_3 < (l1_1.length : Int) := of_decide_eq_true (by first | (with_reducible assumption) | assumption)
  obtain ⟨adz6, ez6, hxz6_0, hxz6_1, hxz6_2⟩ := at_T24 HR1_1.out x6_3 pz6 qz6
  cases ez6
  replace hxz6_0 := (HB.out.cell (World.block_lt_of_cell? w _ hxz6_0)).trans hxz6_0
  replace hxz6_1 := (HB.out.cell (World.block_lt_of_cell? w _ hxz6_1)).trans hxz6_1
  replace hxz6_2 := (HB.out.cell (World.block_lt_of_cell? w _ hxz6_2)).trans hxz6_2
  replace pz6 := eq_true pz6
  replace qz6 := eq_true qz6
  go_wp2
  repeat (go_quiet (fail); try go_wp2)
  go_ret
  exact ⟨by first | rfl | (simp <;> rfl) | (simp [*] <;> rfl), by repeat first | (with_reducible first | exact HB.out | apply ba | apply bn | apply bd | refine bs (by assumption) ?_) | exact HB.out⟩
 rw [if_neg c29] at H
 have c29b0 : (!(((rd_T24 l0_1 x6_3).f0) == ((rd_T24 l1_1 x6_3).f0)) || (!(((rd_T24 l0_1 x6_3).f1) == ((rd_T24 l1_1 x6_3).f1)) || (!((((rd_T24 l0_1 x6_3).f2).toList) == (((rd_T24 l1_1 x6_3).f2).toList))))) = false := by simpa using c29
 clear c29
 have H' := am H
 clear H
 have hnb33 := NBz1_z2.out
 have hnc33 := NBz2_z1.out
 obtain ⟨hcz34_0, hcz34_1⟩ := bc2 BKz1
 obtain ⟨hfz34_0, hfz34_1⟩ := bf2 BKz1
 have pz5 : 0 ≤ (x6_3 : Int) := of_decide_eq_true (by first | (with_reducible assumption) | assumption)
 have qz5 : x6_3 < (l0_1.length : Int) := of_decide_eq_true (by first | (with_reducible assumption) | assumption)
 obtain ⟨adz5, ez5, hxz5_0, hxz5_1, hxz5_2⟩ := at_T24 HR0_1.out x6_3 pz5 qz5
 cases ez5
 replace hxz5_0 := (HB.out.cell (World.block_lt_of_cell? w _ hxz5_0)).trans hxz5_0
 replace hxz5_1 := (HB.out.cell (World.block_lt_of_cell? w _ hxz5_1)).trans hxz5_1
 replace hxz5_2 := (HB.out.cell (World.block_lt_of_cell? w _ hxz5_2)).trans hxz5_2
 replace pz5 := eq_true pz5
 replace qz5 := eq_true qz5
 obtain ⟨hcz35_0, hcz35_1⟩ := bc2 BKz2
 obtain ⟨hfz35_0, hfz35_1⟩ := bf2 BKz2
 have pz6 : 0 ≤ (x6_3 : Int) := of_decide_eq_true (by first | (with_reducible assumption) | assumption)
 have qz6 : x6_3 < (l1_1.length : Int) := of_decide_eq_true (by first | (with_reducible assumption) | assumption)
 obtain ⟨adz6, ez6, hxz6_0, hxz6_1, hxz6_2⟩ := at_T24 HR1_1.out x6_3 pz6 qz6
 cases ez6
 replace hxz6_0 := (HB.out.cell (World.block_lt_of_cell? w _ hxz6_0)).trans hxz6_0
 replace hxz6_1 := (HB.out.cell (World.block_lt_of_cell? w _ hxz6_1)).trans hxz6_1
 replace hxz6_2 := (HB.out.cell (World.block_lt_of_cell? w _ hxz6_2)).trans hxz6_2
 replace pz6 := eq_true pz6
 replace qz6 := eq_true qz6
 go_wp2
 repeat (go_quiet (fail); try go_wp2)
 go_roundg k3
 case measure => have := HJ2.out; have := HK2.out; have := HK3.out; omega
 case rel => exact ⟨(wrap64 (x6_3 + 1)), (by first | rfl | (simp; done) | (simp [*]; done)), H', ⟨by have := HJ2.out; have := HK2.out; have := HK3.out; omega⟩, ⟨by (with_reducible repeat (first | refine blk_drewN ?_ _ | refine bkD ?_ | refine bkA ?_ _)); exact BKz1.out⟩, ⟨by (with_reducible repeat (first | refine blk_drewN ?_ _ | refine bkD ?_ | refine bkA ?_ _)); exact BKz2.out⟩, ⟨by repeat first | (with_reducible first | exact HB.out | apply ba | apply bn | apply bd | refine bs (by assumption) ?_) | exact HB.out⟩⟩
end Go.Proofs.Ytcfinlmocgbnbaa.Pr
end
section
namespace Go.Proofs.Ytcfinlmocgbnbaa.Pr
open Go.Proofs.Ytcfinlmocgbnbaa.Sq Go.RowKit Go.Proofs.YtcfinlmocgbnbaaW.PrintWords Go.Proofs.YtcfinlmocgbnbaaW.PrintLast Go.Proofs.YtcfinlmocgbnbaaW.PrintMore
attribute [local go_sem] max2_int min2_int max_two min_two max_three min_three max_four min_four
set_option linter.unusedVariables false
set_option linter.unusedSimpArgs false
def columbariumref15_Same.f (k : Nat) (l0_0 : List ByteArray) (l0_1 : List (S24)) (a0_2 : Int) (a0_3 : Int) (a0_4 : Int) (l1_0 : List ByteArray) (l1_1 : List (S24)) (a1_2 : Int) (a1_3 : Int) (a1_4 : Int) : Option (Bool) := if a0_2 = a1_2 then (if a0_3 = a1_3 then (if a0_4 = a1_4 then ((columbariumref14_Same.f k l0_0 l0_1 l1_0 l1_1).bind fun tz3 => (some tz3)) else (some false)) else (some false)) else (some false)
set_option maxHeartbeats 8000000 in
set_option maxRecDepth 100000 in
theorem columbariumref15_Same.calls (k : Nat) (A0_0 : Option Addr) (c0_0 : Nat) (l0_0 : List ByteArray) (A0_1 : Option Addr) (c0_1 : Nat) (l0_1 : List (S24)) (a0_2 : Int) (a0_3 : Int) (a0_4 : Int) (A1_0 : Option Addr) (c1_0 : Nat) (l1_0 : List ByteArray) (A1_1 : Option Addr) (c1_1 : Nat) (l1_1 : List (S24)) (a1_2 : Int) (a1_3 : Int) (a1_4 : Int) (r : Bool) (w : World) (hr0_0 : Kd.C Kd.string w A0_0 l0_0.length l0_0) (hc0_0 : l0_0.length ≤ c0_0) (hr0_1 : Kd.C k24 w A0_1 l0_1.length l0_1) (hc0_1 : l0_1.length ≤ c0_1) (hr1_0 : Kd.C Kd.string w A1_0 l1_0.length l1_0) (hc1_0 : l1_0.length ≤ c1_0) (hr1_1 : Kd.C k24 w A1_1 l1_1.length l1_1) (hc1_1 : l1_1.length ≤ c1_1) (h : columbariumref15_Same.f k l0_0 l0_1 a0_2 a0_3 a0_4 l1_0 l1_1 a1_2 a1_3 a1_4 = some r) :
  Calls Try.prog 34 #[.agg #[.slice A0_0 l0_0.length c0_0, .slice A0_1 l0_1.length c0_1, .int .i64 a0_2, .int .i64 a0_3, .int .i64 a0_4], .agg #[.slice A1_0 l1_0.length c1_0, .slice A1_1 l1_1.length c1_1, .int .i64 a1_2, .int .i64 a1_3, .int .i64 a1_4]] w fun e w' => e = .returned (.bool r) ∧ Below w.heap.size w w' := by
 have hu56 := Try.underlying56
 have hu30 := Try.underlying30
 have HR0_0 := am hr0_0
 have HC0_0 := am hc0_0
 clear hr0_0 hc0_0
 have HR0_1 := am hr0_1
 have HC0_1 := am hc0_1
 clear hr0_1 hc0_1
 have HR1_0 := am hr1_0
 have HC1_0 := am hc1_0
 clear hr1_0 hc1_0
 have HR1_1 := am hr1_1
 have HC1_1 := am hc1_1
 clear hr1_1 hc1_1
 have HB := am (Below.refl w.heap.size w)
 have H : (if a0_2 = a1_2 then (if a0_3 = a1_3 then (if a0_4 = a1_4 then ((columbariumref14_Same.f k l0_0 l0_1 l1_0 l1_1).bind fun tz3 => (some tz3)) else (some false)) else (some false)) else (some false)) = some r := h
 clear h
 by_cases c3 : a0_2 = a1_2
 rotate_left
 ·rw [if_neg c3] at H
  have c3b0 : (a0_2 == a1_2) = false := beq_eq_false_iff_ne.mpr c3
  have c3b1 : (a0_2 != a1_2) = true := bne_iff_ne.mpr c3
  obtain rfl := Option.some.inj H
  go_enter Try.func34, Try.ntmps34
  go_wp2_with (first | ((with_reducible refine gate_dst (N := 2) rfl ?_); refine box_event ?hg (N := 2) ?hd (cs := #[.slice A0_0 l0_0.length c0_0, .slice A0_1 l0_1.length c0_1, .int .i64 a0_2, .int .i64 a0_3, .int .i64 a0_4]) (t := 56) ?hr ?_; (case hd => rfl); (case hg => rfl); (case hr => first | (go_simp; done) | (go_simp; rfl)); intro gbz1 hg w23 hbox hb; have n0_ := am (below_step (pb HB) hb); have n1_ := am (hbox); have n2_ := ge_ hg (pb HB); have n3_ := ge_ hg (pb HB); clear HB; have HB := n0_; have BKz1 := n1_; have GWz1 := n2_; have GEz1 := n3_; clear n0_ n1_ n2_ n3_; clear hb hbox hg) | ((with_reducible refine gate_dst (N := 3) rfl ?_); refine box_event ?hg (N := 3) ?hd (cs := #[.slice A1_0 l1_0.length c1_0, .slice A1_1 l1_1.length c1_1, .int .i64 a1_2, .int .i64 a1_3, .int .i64 a1_4]) (t := 56) ?hr ?_; (case hd => rfl); (case hg => rfl); (case hr => first | (go_simp; done) | (go_simp; rfl)); intro gbz2 hg w24 hbox hb; have n0_ := am (bkB (pk BKz1) hb); have n1_ := am (below_step (by repeat first | (with_reducible first | exact HB.out | apply ba | apply bn | apply bd | refine bs (by assumption) ?_) | exact HB.out) hb); have n2_ := am (hbox); have n3_ := ge_ hg (by repeat first | (with_reducible first | exact HB.out | apply ba | apply bn | apply bd | refine bs (by assumption) ?_) | exact HB.out); have n4_ := ge_ hg (by repeat first | (with_reducible first | exact HB.out | apply ba | apply bn | apply bd | refine bs (by assumption) ?_) | exact HB.out); have n5_ := nl_ hg BKz1; have n6_ := ng_ hg BKz1; clear BKz1; clear HB; have BKz1 := n0_; have HB := n1_; have BKz2 := n2_; have GWz2 := n3_; have GEz2 := n4_; have NBz1_z2 := n5_; have NBz2_z1 := n6_; clear n0_ n1_ n2_ n3_ n4_ n5_ n6_; clear hb hbox hg; have hnb25 := NBz1_z2.out; have hnc25 := NBz2_z1.out; obtain ⟨hcz26_0, hcz26_1, hcz26_2, hcz26_3, hcz26_4⟩ := bc5 BKz1; obtain ⟨hfz26_0, hfz26_1, hfz26_2, hfz26_3, hfz26_4⟩ := bf5 BKz1; obtain ⟨hcz27_0, hcz27_1, hcz27_2, hcz27_3, hcz27_4⟩ := bc5 BKz2; obtain ⟨hfz27_0, hfz27_1, hfz27_2, hfz27_3, hfz27_4⟩ := bf5 BKz2))
  go_ret
  exact ⟨by first | rfl | (simp <;> rfl) | (simp [*] <;> rfl), by repeat first | (with_reducible first | exact HB.out | apply ba | apply bn | apply bd | refine bs (by assumption) ?_) | exact HB.out⟩
 rw [if_pos c3] at H
 have c3b0 : (a0_2 == a1_2) = true := beq_iff_eq.mpr c3
 have c3b1 : (a0_2 != a1_2) = false := bne_eq_false_iff_eq.mpr c3
 clear c3
 by_cases c4 : a0_3 = a1_3
 rotate_left
 ·rw [if_neg c4] at H
  have c4b0 : (a0_3 == a1_3) = false := beq_eq_false_iff_ne.mpr c4
  have c4b1 : (a0_3 != a1_3) = true := bne_iff_ne.mpr c4
  obtain rfl := Option.some.inj H
  go_enter Try.func34, Try.ntmps34
  go_wp2_with (first | ((with_reducible refine gate_dst (N := 2) rfl ?_); refine box_event ?hg (N := 2) ?hd (cs := #[.slice A0_0 l0_0.length c0_0, .slice A0_1 l0_1.length c0_1, .int .i64 a0_2, .int .i64 a0_3, .int .i64 a0_4]) (t := 56) ?hr ?_; (case hd => rfl); (case hg => rfl); (case hr => first | (go_simp; done) | (go_simp; rfl)); intro gbz1 hg w18 hbox hb; have n0_ := am (below_step (pb HB) hb); have n1_ := am (hbox); have n2_ := ge_ hg (pb HB); have n3_ := ge_ hg (pb HB); clear HB; have HB := n0_; have BKz1 := n1_; have GWz1 := n2_; have GEz1 := n3_; clear n0_ n1_ n2_ n3_; clear hb hbox hg) | ((with_reducible refine gate_dst (N := 3) rfl ?_); refine box_event ?hg (N := 3) ?hd (cs := #[.slice A1_0 l1_0.length c1_0, .slice A1_1 l1_1.length c1_1, .int .i64 a1_2, .int .i64 a1_3, .int .i64 a1_4]) (t := 56) ?hr ?_; (case hd => rfl); (case hg => rfl); (case hr => first | (go_simp; done) | (go_simp; rfl)); intro gbz2 hg w19 hbox hb; have n0_ := am (bkB (pk BKz1) hb); have n1_ := am (below_step (by repeat first | (with_reducible first | exact HB.out | apply ba | apply bn | apply bd | refine bs (by assumption) ?_) | exact HB.out) hb); have n2_ := am (hbox); have n3_ := ge_ hg (by repeat first | (with_reducible first | exact HB.out | apply ba | apply bn | apply bd | refine bs (by assumption) ?_) | exact HB.out); have n4_ := ge_ hg (by repeat first | (with_reducible first | exact HB.out | apply ba | apply bn | apply bd | refine bs (by assumption) ?_) | exact HB.out); have n5_ := nl_ hg BKz1; have n6_ := ng_ hg BKz1; clear BKz1; clear HB; have BKz1 := n0_; have HB := n1_; have BKz2 := n2_; have GWz2 := n3_; have GEz2 := n4_; have NBz1_z2 := n5_; have NBz2_z1 := n6_; clear n0_ n1_ n2_ n3_ n4_ n5_ n6_; clear hb hbox hg; have hnb20 := NBz1_z2.out; have hnc20 := NBz2_z1.out; obtain ⟨hcz21_0, hcz21_1, hcz21_2, hcz21_3, hcz21_4⟩ := bc5 BKz1; obtain ⟨hfz21_0, hfz21_1, hfz21_2, hfz21_3, hfz21_4⟩ := bf5 BKz1; obtain ⟨hcz22_0, hcz22_1, hcz22_2, hcz22_3, hcz22_4⟩ := bc5 BKz2; obtain ⟨hfz22_0, hfz22_1, hfz22_2, hfz22_3, hfz22_4⟩ := bf5 BKz2))
  go_ret
  exact ⟨by first | rfl | (simp <;> rfl) | (simp [*] <;> rfl), by repeat first | (with_reducible first | exact HB.out | apply ba | apply bn | apply bd | refine bs (by assumption) ?_) | exact HB.out⟩
 rw [if_pos c4] at H
 have c4b0 : (a0_3 == a1_3) = true := beq_iff_eq.mpr c4
 have c4b1 : (a0_3 != a1_3) = false := bne_eq_false_iff_eq.mpr c4
 clear c4
 by_cases c5 : a0_4 = a1_4
 rotate_left
 ·rw [if_neg c5] at H
  have c5b0 : (a0_4 == a1_4) = false := beq_eq_false_iff_ne.mpr c5
  have c5b1 : (a0_4 != a1_4) = true := bne_iff_ne.mpr c5
  obtain rfl := Option.some.inj H
  go_enter Try.func34, Try.ntmps34
  go_wp2_with (first | ((with_reducible refine gate_dst (N := 2) rfl ?_); refine box_event ?hg (N := 2) ?hd (cs := #[.slice A0_0 l0_0.length c0_0, .slice A0_1 l0_1.length c0_1, .int .i64 a0_2, .int .i64 a0_3, .int .i64 a0_4]) (t := 56) ?hr ?_; (case hd => rfl); (case hg => rfl); (case hr => first | (go_simp; done) | (go_simp; rfl)); intro gbz1 hg w13 hbox hb; have n0_ := am (below_step (pb HB) hb); have n1_ := am (hbox); have n2_ := ge_ hg (pb HB); have n3_ := ge_ hg (pb HB); clear HB; have HB := n0_; have BKz1 := n1_; have GWz1 := n2_; have GEz1 := n3_; clear n0_ n1_ n2_ n3_; clear hb hbox hg) | ((with_reducible refine gate_dst (N := 3) rfl ?_); refine box_event ?hg (N := 3) ?hd (cs := #[.slice A1_0 l1_0.length c1_0, .slice A1_1 l1_1.length c1_1, .int .i64 a1_2, .int .i64 a1_3, .int .i64 a1_4]) (t := 56) ?hr ?_; (case hd => rfl); (case hg => rfl); (case hr => first | (go_simp; done) | (go_simp; rfl)); intro gbz2 hg w14 hbox hb; have n0_ := am (bkB (pk BKz1) hb); have n1_ := am (below_step (by repeat first | (with_reducible first | exact HB.out | apply ba | apply bn | apply bd | refine bs (by assumption) ?_) | exact HB.out) hb); have n2_ := am (hbox); have n3_ := ge_ hg (by repeat first | (with_reducible first | exact HB.out | apply ba | apply bn | apply bd | refine bs (by assumption) ?_) | exact HB.out); have n4_ := ge_ hg (by repeat first | (with_reducible first | exact HB.out | apply ba | apply bn | apply bd | refine bs (by assumption) ?_) | exact HB.out); have n5_ := nl_ hg BKz1; have n6_ := ng_ hg BKz1; clear BKz1; clear HB; have BKz1 := n0_; have HB := n1_; have BKz2 := n2_; have GWz2 := n3_; have GEz2 := n4_; have NBz1_z2 := n5_; have NBz2_z1 := n6_; clear n0_ n1_ n2_ n3_ n4_ n5_ n6_; clear hb hbox hg; have hnb15 := NBz1_z2.out; have hnc15 := NBz2_z1.out; obtain ⟨hcz16_0, hcz16_1, hcz16_2, hcz16_3, hcz16_4⟩ := bc5 BKz1; obtain ⟨hfz16_0, hfz16_1, hfz16_2, hfz16_3, hfz16_4⟩ := bf5 BKz1; obtain ⟨hcz17_0, hcz17_1, hcz17_2, hcz17_3, hcz17_4⟩ := bc5 BKz2; obtain ⟨hfz17_0, hfz17_1, hfz17_2, hfz17_3, hfz17_4⟩ := bf5 BKz2))
  go_ret
  exact ⟨by first | rfl | (simp <;> rfl) | (simp [*] <;> rfl), by repeat first | (with_reducible first | exact HB.out | apply ba | apply bn | apply bd | refine bs (by assumption) ?_) | exact HB.out⟩
 rw [if_pos c5] at H
 have c5b0 : (a0_4 == a1_4) = true := beq_iff_eq.mpr c5
 have c5b1 : (a0_4 != a1_4) = false := bne_eq_false_iff_eq.mpr c5
 clear c5
 replace H := ob_ H
 obtain ⟨tz3, A60, H⟩ := H
 replace H : (some tz3) = some r := H
 have A6 := Aside0.mk A60
 clear A60
 obtain rfl := Option.some.inj H
 go_enter Try.func34, Try.ntmps34
 go_wp2_with (first | ((with_reducible refine gate_dst (N := 2) rfl ?_); refine box_event ?hg (N := 2) ?hd (cs := #[.slice A0_0 l0_0.length c0_0, .slice A0_1 l0_1.length c0_1, .int .i64 a0_2, .int .i64 a0_3, .int .i64 a0_4]) (t := 56) ?hr ?_; (case hd => rfl); (case hg => rfl); (case hr => first | (go_simp; done) | (go_simp; rfl)); intro gbz1 hg w7 hbox hb; have n0_ := am (below_step (pb HB) hb); have n1_ := am (hbox); have n2_ := ge_ hg (pb HB); have n3_ := ge_ hg (pb HB); clear HB; have HB := n0_; have BKz1 := n1_; have GWz1 := n2_; have GEz1 := n3_; clear n0_ n1_ n2_ n3_; clear hb hbox hg) | ((with_reducible refine gate_dst (N := 3) rfl ?_); refine box_event ?hg (N := 3) ?hd (cs := #[.slice A1_0 l1_0.length c1_0, .slice A1_1 l1_1.length c1_1, .int .i64 a1_2, .int .i64 a1_3, .int .i64 a1_4]) (t := 56) ?hr ?_; (case hd => rfl); (case hg => rfl); (case hr => first | (go_simp; done) | (go_simp; rfl)); intro gbz2 hg w8 hbox hb; have n0_ := am (bkB (pk BKz1) hb); have n1_ := am (below_step (by repeat first | (with_reducible first | exact HB.out | apply ba | apply bn | apply bd | refine bs (by assumption) ?_) | exact HB.out) hb); have n2_ := am (hbox); have n3_ := ge_ hg (by repeat first | (with_reducible first | exact HB.out | apply ba | apply bn | apply bd | refine bs (by assumption) ?_) | exact HB.out); have n4_ := ge_ hg (by repeat first | (with_reducible first | exact HB.out | apply ba | apply bn | apply bd | refine bs (by assumption) ?_) | exact HB.out); have n5_ := nl_ hg BKz1; have n6_ := ng_ hg BKz1; clear BKz1; clear HB; have BKz1 := n0_; have HB := n1_; have BKz2 := n2_; have GWz2 := n3_; have GEz2 := n4_; have NBz1_z2 := n5_; have NBz2_z1 := n6_; clear n0_ n1_ n2_ n3_ n4_ n5_ n6_; clear hb hbox hg; have hnb9 := NBz1_z2.out; have hnc9 := NBz2_z1.out; obtain ⟨hcz10_0, hcz10_1, hcz10_2, hcz10_3, hcz10_4⟩ := bc5 BKz1; obtain ⟨hfz10_0, hfz10_1, hfz10_2, hfz10_3, hfz10_4⟩ := bf5 BKz1; obtain ⟨hcz11_0, hcz11_1, hcz11_2, hcz11_3, hcz11_4⟩ := bc5 BKz2; obtain ⟨hfz11_0, hfz11_1, hfz11_2, hfz11_3, hfz11_4⟩ := bf5 BKz2) | (go_at_call 15; (with_reducible refine (columbariumref14_Same.calls k _ _ l0_0 _ _ l0_1 _ _ l1_0 _ _ l1_1 tz3 _ ?side1 ?side2 ?side3 ?side4 ?side5 ?side6 ?side7 ?side8 A6.out).mono ?_); (case side1 => repeat (first | exact (Kd.C_below HR0_0.out HB.out) | (with_reducible refine Kd.C_alloc ?_ _) | (with_reducible refine Kd.C_drewN ?_ _) | (with_reducible refine Kd.C_drew ?_))); (case side2 => exact HC0_0.out); (case side3 => repeat (first | exact (Kd.C_below HR0_1.out HB.out) | (with_reducible refine Kd.C_alloc ?_ _) | (with_reducible refine Kd.C_drewN ?_ _) | (with_reducible refine Kd.C_drew ?_))); (case side4 => exact HC0_1.out); (case side5 => repeat (first | exact (Kd.C_below HR1_0.out HB.out) | (with_reducible refine Kd.C_alloc ?_ _) | (with_reducible refine Kd.C_drewN ?_ _) | (with_reducible refine Kd.C_drew ?_))); (case side6 => exact HC1_0.out); (case side7 => repeat (first | exact (Kd.C_below HR1_1.out HB.out) | (with_reducible refine Kd.C_alloc ?_ _) | (with_reducible refine Kd.C_drewN ?_ _) | (with_reducible refine Kd.C_drew ?_))); (case side8 => exact HC1_1.out); rintro e w12 ⟨rfl, hb⟩; have n0_ := am (bkB (pk BKz1) hb); have n1_ := am (bkB (pk BKz2) hb); have n2_ := am (below_step (by repeat first | (with_reducible first | exact HB.out | apply ba | apply bn | apply bd | refine bs (by assumption) ?_) | exact HB.out) hb); clear BKz1; clear BKz2; clear HB; have BKz1 := n0_; have BKz2 := n1_; have HB := n2_; clear n0_ n1_ n2_; (try clear hi)))
 go_ret
 exact ⟨by first | rfl | (simp <;> rfl) | (simp [*] <;> rfl), by repeat first | (with_reducible first | exact HB.out | apply ba | apply bn | apply bd | refine bs (by assumption) ?_) | exact HB.out⟩
end Go.Proofs.Ytcfinlmocgbnbaa.Pr
end
section
set_option linter.unusedVariables false
namespace Go.Proofs.Ytcfinlmocgbnbaa.XB
open Go.RowKit Go.Shelf Go.Proofs.YtcfinlmocgbnbaaW.PrintWords
theorem blk_same {w w1 : World} {g : Nat} {o : Obj} (h : w.heap[g]? = some o) (hb : Below w.heap.size w w1) : w1.heap[g]? = some o := (hb.block g (blk_lt h)).trans h
variable {P : Program}
theorem run_loadVar_one (w : World) (g : Nat) (t ty : TypeId) (v : Value) (fr : Nat × Nat) (d : TypeDesc) (hg : w.heap[g]? = some (.cells #[v] t fr))
    (hu : P.underlying ty = some d) (hd : (match d with | .struct _ | .array _ _ => true | _ => false) = false) :
    (loadVar ty ⟨g, 0, none⟩).run P w = .ok v w := by
  have hc : w.cell? ⟨g, 0, none⟩ = some v := by rw [cell_of_row w g 0 #[v] t fr hg]; rfl
  have ha : (isAgg ty).run P w = .ok false w := by
    simp only [isAgg, Sem.run_bind, run_underlying hu, Result.andThen_ok]
    cases d <;> simp_all
  simp only [loadVar, Sem.run_bind, ha, Result.andThen_ok]
  simp [go_sem, hc]
end Go.Proofs.Ytcfinlmocgbnbaa.XB
namespace Go.Proofs.Ytcfinlmocgbnbaa.XB
open Go.RowKit Go.Shelf Go.Proofs.YtcfinlmocgbnbaaW.PrintWords
variable {F : Fence} {n : Nat} {P : Program}
def IterSeq (F : Fence) (n : Nat) (P : Program) (g : Nat) (lb : Array Value) (vals : Nat → Array Value) (N : Nat) (Start : World → Prop) (Tch Kp : World → World → Prop) : Prop :=
  ∀ (l : Nat) (J Jx : Nat → World → Prop) (W : World), Start W → (∀ k A B, J k A → Tch A B → J k B) → (∀ k A B, Jx k A → Tch A B → Jx k B) →
    (∀ k W1, J k W1 → k < N → YieldAt F (n - 1) P l (vals k) W1 fun e W' =>
      (e = .returned (.bool true) ∧ J (k + 1) W' ∧ Kp W1 W') ∨ (e = .returned (.bool false) ∧ Jx (k + 1) W')) →
    J 0 W →
    CallsIn F n P g (#[.func (.yield l) #[] #[]] ++ lb) W fun e W' => (∃ v, e = .returned v) ∧ (J N W' ∨ (∃ k, k ≤ N ∧ Jx k W'))
def seqPost (B : Nat) (Kp : World → World → Prop) (I : Nat → World → Prop) (Ix : Code → Nat → World → Prop) (k : Nat) (W : World) : Exit → Act → World → Prop
  | .normal, _, W' => KeepsFrom B W W' ∧ Kp W W' ∧ I k W'
  | .ret, _, W' => KeepsFrom B W W' ∧ Ix .ret k W'
  | .exit id, _, W' => KeepsFrom B W W' ∧ Ix (.exit id) k W'
  | .goto t, _, W' => KeepsFrom B W W' ∧ Ix (.goto t) k W'
  | .panic _, _, _ => False
  | .outgrown, _, _ => False
def OwnW (B : Nat) (I : World → Prop) : Prop := ∀ W W' row, I W → W.grownBy W' row → (∀ r, row = some r → B ≤ r ∧ ∃ o : Obj, W.heap[r]? = some o ∧ o.isCells = false) → I W'
theorem OwnW.putObj {B : Nat} {I : World → Prop} (h : OwnW B I) {W : World} {l : Nat} {o : Obj} (o' : Obj) (hs : I W) (hB : B ≤ l) (hl : W.heap[l]? = some o) (ho : o.isCells = false) : I (W.putObj l o') :=
  h W _ (some l) hs (grownBy_putObj' W l o') (fun r e => by cases e; exact ⟨hB, _, hl, ho⟩)
theorem OwnW.alloc {B : Nat} {I : World → Prop} (h : OwnW B I) {W : World} (o : Obj) (hs : I W) : I (W.alloc o) :=
  h W _ none hs (World.grownBy_alloc W o none) (fun r e => by cases e)
theorem OwnW.and {B : Nat} {I J : World → Prop} (h : OwnW B I) (h' : OwnW B J) : OwnW B (fun W => I W ∧ J W) := fun W W' row hs hg hr => ⟨h W W' row hs.1 hg hr, h' W W' row hs.2 hg hr⟩
theorem OwnW.pure {B : Nat} (p : Prop) : OwnW B (fun _ => p) := fun _ _ _ h _ _ => h
theorem OwnW.ex {B : Nat} {β : Sort _} {I : β → World → Prop} (h : ∀ x, OwnW B (I x)) : OwnW B (fun W => ∃ x, I x W) := fun W W' row ⟨x, hx⟩ hg hr => ⟨x, h x W W' row hx hg hr⟩
theorem OwnW.blk {B : Nat} (g : Nat) (cs : Array Value) (t : TypeId) (fr : Nat × Nat) : OwnW B (fun W => W.heap[g]? = some (.cells cs t fr)) := fun W W' row h hg hr => blk_grown h hg (fun e => by
  obtain ⟨_, o, ho, hc⟩ := hr g e.symm
  rw [h] at ho
  cases ho
  cases hc)
theorem OwnW.below {n₀ B : Nat} {w₀ : World} (hn : n₀ ≤ w₀.heap.size) (hB : n₀ ≤ B) : OwnW B (fun W => Below n₀ w₀ W) :=
  fun W W' row h hg hr => h.grown hg (Nat.le_trans hn h.size) (fun k e => Nat.le_trans hB (hr k e).1)
theorem OwnW.row {α : Type} {B : Nat} (d : Kd α) (e base : Nat) (ok : Nat → Prop) (v : Value) (xs : List α) : OwnW B (fun W => d.R e W base ok v xs) := fun W W' row h hg hr => by
  refine Kd.R_mono (Kd.R_grown (Kd.R_bound h) hg (fun k hk => ?_)) (fun _ hk => hk.1)
  rintro rfl
  obtain ⟨_, o, ho, hc⟩ := hr k rfl
  obtain ⟨_, _, _, q, _, cells, hcc⟩ := hk
  rw [hcc] at ho
  cases ho
  cases hc
theorem wpIn_rangeFunc_seq {g : Operand} {ps : Array Tmp} {assign body : Code} {Q : Exit → Act → World → Prop} {a : Act} {w : World}
    (hro : F.round = none) (h1 : 1 ≤ n) {gf : Nat} {lb : Array Value} (hg : a.eval g = .func (.func gf) #[] lb) (hFg : F.fn gf) (eg : ∀ args w, (callFunc gf args).run P w = .ok (.enter gf args) w)
    {vals : Nat → Array Value} {N : Nat} {Start : World → Prop} {Tch Kp : World → World → Prop} (hseq : IterSeq F (n - 1) P gf lb vals N Start Tch Kp)
    (hStart : OwnW w.heap.size Start) (hs0 : Start w) (hT : ∀ A B, Tch A B → KeepsFrom w.heap.size A B)
    (hKt : ∀ {A B C : World}, Kp A B → Kp B C → Kp A C) (hKb : ∀ (W : World) (l : Nat) (o o' : Obj), w.heap.size ≤ l → W.heap[l]? = some o → o.isCells = false → Kp W (W.putObj l o')) (hps : ∀ k, (vals k).size = ps.size)
    (I : Nat → World → Prop) (Ix : Code → Nat → World → Prop) (hI : ∀ k, OwnW w.heap.size (I k)) (hIx : ∀ c k, OwnW w.heap.size (Ix c k))
    (hIT : ∀ k A B, I k A → Tch A B → I k B) (hIxT : ∀ c k A B, Ix c k A → Tch A B → Ix c k B) (h0 : I 0 w) (a₁ : Nat → Act)
    (hassign : ∀ (l k : Nat) (W : World) (K : Act → World → Prop), K (a₁ k) W →
      assign.wpIn (F.inRound l) (n - 1 - 1) P (Exit.then K (fun _ _ _ => False)) { tmps := (ps.zip (vals k)).foldl (fun t (p, v) => t.setIfInBounds p v) a.tmps, defers := [] } W)
    (hbody : ∀ (l k : Nat) (W : World), I k W → k < N → body.wpIn (F.inRound l) (n - 1 - 1) P (seqPost w.heap.size Kp I Ix (k + 1) W) (a₁ k) W)
    (hdone : ∀ (D : Nat) (W : World), w.heap.size ≤ D → I N W → W.heap[D]? = some (.deferred (some [])) → Q .normal { a with defers := { target := .collected D, args := #[] } :: a.defers } W)
    (hstop : ∀ (D : Nat) (c : Code) (k : Nat) (W : World), w.heap.size ≤ D → k ≤ N → Ix c k W → W.heap[D]? = some (.deferred (some [])) → c.wpIn F n P Q { a with defers := { target := .collected D, args := #[] } :: a.defers } W) :
    (Code.rangeFunc g ps assign body).wpIn F n P Q a w := by
  refine wpIn_rangeFunc ?_
  intro fn hfn
  rw [hro]
  obtain ⟨rec, hrec⟩ : ∃ rec : LoopState → Option Code → Loop, rec = fun st pe => { state := st, pending := pe, fn, tmps := a.tmps, params := ps, assign, body, defers := w.heap.size } := ⟨_, rfl⟩
  obtain ⟨W1, hW1⟩ : ∃ W1, (w.alloc (.deferred (some []))).alloc (.loop (rec .ready none)) = W1 := ⟨_, rfl⟩
  have hL1 : W1.heap[w.heap.size + 1]? = some (.loop (rec .ready none)) := by
    rw [← hW1]; have := World.alloc_heap_new (w.alloc (.deferred (some []))) (.loop (rec .ready none)); rwa [World.size_alloc] at this
  have hK1 : W1.heap[w.heap.size]? = some (.deferred (some [])) := by
    rw [← hW1]; exact (Below.heap_alloc _ _ _ (by simp)).trans (World.alloc_heap_new w _)
  have hI1 : I 0 W1 := by rw [← hW1]; exact (hI 0).alloc _ ((hI 0).alloc _ h0)
  have hS1 : Start W1 := by rw [← hW1]; exact hStart.alloc _ (hStart.alloc _ hs0)
  refine ⟨w.heap.size + 1, [{ target := .collected w.heap.size, args := #[] }], W1, { target := .fn (.func gf) lb, args := #[.func (.yield (w.heap.size + 1)) #[] #[]] }, W1, gf,
    #[.func (.yield (w.heap.size + 1)) #[] #[]] ++ lb, W1, ?_, ?_, ?_, ?_, fun _ => h1, ?_⟩
  · rw [← hW1, hrec]; exact run_enterLoop_outer _ _ _ _ _
  · simp only [resolve, hg]
    simp [go_sem]
  · intro f' hf'; simp [Target.leads] at hf'; subst hf'; exact hFg
  · simp [invoke, go_sem, eg]
  · refine (hseq (w.heap.size + 1)
      (fun k W => I k W ∧ W.heap[w.heap.size + 1]? = some (.loop (rec .ready none)) ∧ W.heap[w.heap.size]? = some (.deferred (some [])))
      (fun k W => ∃ c, Ix c k W ∧ W.heap[w.heap.size + 1]? = some (.loop (rec .done (some c))) ∧ W.heap[w.heap.size]? = some (.deferred (some [])))
      W1 hS1
      (fun k A B hs ht => ⟨hIT k A B hs.1 ht, (hT A B ht).same _ _ (by omega) hs.2.1 rfl, (hT A B ht).same _ _ (Nat.le_refl _) hs.2.2 rfl⟩)
      (fun k A B hs ht => by
        obtain ⟨c, hc, hl, hk⟩ := hs
        exact ⟨c, hIxT c k A B hc ht, (hT A B ht).same _ _ (by omega) hl rfl, (hT A B ht).same _ _ (Nat.le_refl _) hk rfl⟩)
      ?_ ⟨hI1, hL1, hK1⟩).mono ?_
    · rintro k W ⟨hi, hl, hk⟩ hlen
      have hlt : w.heap.size + 1 < W.heap.size := (Array.getElem?_eq_some_iff.1 hl).1
      have hy := run_yield (P := P) (args := vals k) hl (by rw [hrec]; exact hps k)
      rw [hrec] at hy
      refine ⟨fn, _, assign, body, hy, roundIn_of_wpIn hfn (hassign _ k W _ ⟨_, run_beginRound hl (by rw [hrec]), ?_⟩)⟩
      have hl2 : (W.putObj (w.heap.size + 1) (.loop { rec .ready none with state := .busy })).heap[w.heap.size + 1]? = some (.loop { rec .ready none with state := .busy }) := World.putObj_heap_same hlt
      have hk2 : (W.putObj (w.heap.size + 1) (.loop { rec .ready none with state := .busy })).heap[w.heap.size]? = some (.deferred (some [])) := (World.putObj_heap_other (by omega)).trans hk
      have hw2 : Kp W (W.putObj (w.heap.size + 1) (.loop { rec .ready none with state := .busy })) := hKb _ _ _ _ (by omega) hl rfl
      refine wpIn_mono (hbody _ k _ ((hI k).putObj _ hi (by omega) hl rfl) hlen) ?_
      have fin : ∀ (jump : Option Code) (W3 : World), KeepsFrom w.heap.size (W.putObj (w.heap.size + 1) (.loop { rec .ready none with state := .busy })) W3 →
          (Instr.endRound (w.heap.size + 1) jump).run P W3 = .ok (.bool jump.isNone) (W3.putObj (w.heap.size + 1) (.loop (rec (if jump.isNone then .ready else .done) jump))) ∧
          W3.heap[w.heap.size + 1]? = some (.loop { rec .ready none with state := .busy }) ∧
          (W3.putObj (w.heap.size + 1) (.loop (rec (if jump.isNone then .ready else .done) jump))).heap[w.heap.size + 1]? = some (.loop (rec (if jump.isNone then .ready else .done) jump)) ∧
          (W3.putObj (w.heap.size + 1) (.loop (rec (if jump.isNone then .ready else .done) jump))).heap[w.heap.size]? = some (.deferred (some [])) := fun jump W3 hk3 => by
        have hl3 := hk3.same _ _ (by omega) hl2 rfl
        have := run_endRound (P := P) jump hl3
        rw [hrec] at this ⊢
        exact ⟨this, by rw [hrec] at hl3; exact hl3, World.putObj_heap_same (Array.getElem?_eq_some_iff.1 hl3).1, (World.putObj_heap_other (by omega)).trans (hk3.same _ _ (Nat.le_refl _) hk2 rfl)⟩
      rintro e a3 W3 hp
      cases e with
      | normal =>
        obtain ⟨hk3, hkp3, hi3⟩ := hp
        obtain ⟨hr, hl3, hl4, hk4⟩ := fin none W3 hk3
        exact ⟨_, _, hr, .inl ⟨rfl, ⟨(hI _).putObj _ hi3 (by omega) hl3 rfl, hl4, hk4⟩, hKt (hKt hw2 hkp3) (hKb _ _ _ _ (by omega) hl3 rfl)⟩⟩
      | ret =>
        obtain ⟨hk3, hi3⟩ := hp
        obtain ⟨hr, hl3, hl4, hk4⟩ := fin (some .ret) W3 hk3
        exact ⟨_, _, hr, .inr ⟨rfl, .ret, (hIx _ _).putObj _ hi3 (by omega) hl3 rfl, hl4, hk4⟩⟩
      | exit id =>
        obtain ⟨hk3, hi3⟩ := hp
        obtain ⟨hr, hl3, hl4, hk4⟩ := fin (some (.exit id)) W3 hk3
        exact ⟨_, _, hr, .inr ⟨rfl, .exit id, (hIx _ _).putObj _ hi3 (by omega) hl3 rfl, hl4, hk4⟩⟩
      | goto t =>
        obtain ⟨hk3, hi3⟩ := hp
        obtain ⟨hr, hl3, hl4, hk4⟩ := fin (some (.goto t)) W3 hk3
        exact ⟨_, _, hr, .inr ⟨rfl, .goto t, (hIx _ _).putObj _ hi3 (by omega) hl3 rfl, hl4, hk4⟩⟩
      | panic ch => exact hp.elim
      | outgrown => exact hp.elim
    · rintro e W2 ⟨⟨v, rfl⟩, (⟨hi, hl, hk⟩ | ⟨k, hkN, c, hi, hl, hk⟩)⟩
      · exact ⟨none, _, by have := run_endLoop (P := P) hl (by rw [hrec]; simp); rw [hrec] at this; exact this, hdone _ _ (Nat.le_refl _) ((hI _).putObj _ hi (by omega) hl rfl) ((World.putObj_heap_other (by omega)).trans hk)⟩
      · exact ⟨some c, _, by have := run_endLoop (P := P) hl (by rw [hrec]; simp); rw [hrec] at this; exact this, hstop _ c k _ (Nat.le_refl _) hkN ((hIx c k).putObj _ hi (by omega) hl rfl) ((World.putObj_heap_other (by omega)).trans hk)⟩
end Go.Proofs.Ytcfinlmocgbnbaa.XB
namespace Go.Proofs.Ytcfinlmocgbnbaa.XB
open Go.RowKit Go.Shelf Go.Proofs.YtcfinlmocgbnbaaW.PrintWords
theorem M_of {F : Fence} {n : Nat} {P : Program} {fn : Func} {R : Ending → World → Prop} {e : Exit} {a : Act} {w : World} (h : bodyPost P fn R e a w) : bodyPostM F n P fn R e a w := by
  cases e with
  | normal => obtain ⟨hd, hv⟩ := h; show LeavesInM F n P fn a.tmps R a.defers .returning w; rw [hd]; exact hv
  | ret => obtain ⟨hd, hv⟩ := h; show LeavesInM F n P fn a.tmps R a.defers .returning w; rw [hd]; exact hv
  | panic chain => obtain ⟨hd, hv⟩ := h; show LeavesInM F n P fn a.tmps R a.defers (.panicking chain) w; rw [hd]; exact hv
  | outgrown => exact h
  | exit id => exact h.elim
  | goto l => exact h.elim
theorem M_ret {F : Fence} {n : Nat} {P : Program} {fn : Func} {R : Ending → World → Prop} {e : Exit} {tmps : Array Value} {w : World} {D : Nat} {v : Value} (he : e = .ret ∨ e = .normal)
    (hD : w.heap[D]? = some (.deferred (some []))) (hv : (results fn tmps).run P (w.putObj D (.deferred none)) = .ok v (w.putObj D (.deferred none))) (hR : R (.returned v) (w.putObj D (.deferred none))) :
    bodyPostM F n P fn R e { tmps := tmps, defers := [{ target := .collected D, args := #[] }] } w := by
  have h : LeavesInM F n P fn tmps R [{ target := .collected D, args := #[] }] .returning w :=
    ⟨by simp, .inl ⟨_, _, rfl, run_takeDeferred hD, _, hv, hR⟩⟩
  rcases he with rfl | rfl <;> exact h
inductive ValsX (P : Program) (tmps : Array Value) (w : World) : List ResultVar → List Value → Prop where
  | nil : ValsX P tmps w [] []
  | tmp {u : Tmp} {rs : List ResultVar} {vs : List Value} (h : ValsX P tmps w rs vs) : ValsX P tmps w (.tmp u :: rs) (tmps.getD u undef :: vs)
  | cell {p : Tmp} {ty : TypeId} {rs : List ResultVar} {vs : List Value} (g : Nat) (t : TypeId) (cs : Array Value) (fr : Nat × Nat) (d : TypeDesc)
      (hp : tmps.getD p undef = .pointer (some ⟨g, 0, none⟩)) (hg : w.heap[g]? = some (.cells cs t fr))
      (hu : P.underlying ty = some d) (hd : (match d with | .struct _ | .array _ _ => true | _ => false) = true) (hi : (P.info? ty).map (·.size) = some cs.size)
      (h : ValsX P tmps w rs vs) : ValsX P tmps w (.cell p ty :: rs) (.agg cs :: vs)
  | one {p : Tmp} {ty : TypeId} {rs : List ResultVar} {vs : List Value} (g : Nat) (t : TypeId) (v : Value) (fr : Nat × Nat) (d : TypeDesc)
      (hp : tmps.getD p undef = .pointer (some ⟨g, 0, none⟩)) (hg : w.heap[g]? = some (.cells #[v] t fr))
      (hu : P.underlying ty = some d) (hd : (match d with | .struct _ | .array _ _ => true | _ => false) = false)
      (h : ValsX P tmps w rs vs) : ValsX P tmps w (.cell p ty :: rs) (v :: vs)
section
variable {P : Program} {tmps : Array Value} {w : World}
theorem valsX_run {rs : List ResultVar} {vs : List Value} (hv : ValsX P tmps w rs vs) (f : ResultVar → Sem Value) (hf : ∀ u, f (.tmp u) = pure (tmps.getD u undef)) (hc : ∀ a t, f (.cell a t) = (do loadVar t (← asAddr (tmps.getD a undef)))) :
    (rs.mapM f).run P w = .ok vs w := by
  induction hv with
  | nil => simp
  | tmp h ih => simp [List.mapM_cons, hf, ih]
  | cell g t cs fr d hp hg hu hd hi h ih =>
    rw [List.mapM_cons, hc, hp]
    simp [asAddr, run_loadVar_row w g t _ cs fr d hg hu hd hi, ih]
  | one g t v fr d hp hg hu hd h ih =>
    rw [List.mapM_cons, hc, hp]
    simp [asAddr, run_loadVar_one w g t _ v fr d hg hu hd, ih]
theorem resultsX_list {fn : Func} {rs : List ResultVar} {vs : List Value} (h : fn.results = rs.toArray) (hl : vs.length ≠ 1) (hv : ValsX P tmps w rs vs) : (results fn tmps).run P w = .ok (.tuple vs.toArray) w := by
  unfold results
  rw [h, List.mapM_toArray]
  simp only [Sem.run_bind, Sem.run_map]
  rw [valsX_run hv]
  · simp [hl]
  · intro u
    rfl
  · intro a t
    rfl
theorem resultsX_single {fn : Func} {r : ResultVar} {v : Value} (h : fn.results = #[r]) (hv : ValsX P tmps w [r] [v]) : (results fn tmps).run P w = .ok v w := by
  unfold results
  rw [show fn.results = [r].toArray from h, List.mapM_toArray]
  simp only [Sem.run_bind, Sem.run_map]
  rw [valsX_run hv]
  · simp
  · intro u
    rfl
  · intro a t
    rfl
end
end Go.Proofs.Ytcfinlmocgbnbaa.XB
namespace Go.Proofs.Ytcfinlmocgbnbaa.XB
open Go.RowKit Go.Shelf Go.Proofs.YtcfinlmocgbnbaaW.PrintWords
def QM (n : Nat) (P : Program) (fn : Func) (R : Ending → World → Prop) : Exit → Act → World → Prop
  | .normal, a, w | .ret, a, w => LeavesInM Fence.wide n P fn a.tmps R a.defers .returning w
  | _, _, _ => False
theorem QM_wp {n : Nat} {P : Program} {fn : Func} {R : Ending → World → Prop} {c : Code} {a : Act} {w : World} (h : c.wp P (QM n P fn R) a w) : c.wpIn Fence.wide n P (bodyPostM Fence.wide n P fn R) a w := by
  refine wpIn_mono (wpIn_wide.2 h) ?_
  intro e a w h
  cases e <;> first | exact h | exact h.elim
theorem QM_ret {n : Nat} {P : Program} {fn : Func} {R : Ending → World → Prop} {e : Exit} {tmps : Array Value} {w : World} {D : Nat} {v : Value} (he : e = .ret ∨ e = .normal)
    (hD : w.heap[D]? = some (.deferred (some []))) (hv : (results fn tmps).run P (w.putObj D (.deferred none)) = .ok v (w.putObj D (.deferred none))) (hR : R (.returned v) (w.putObj D (.deferred none))) :
    QM n P fn R e { tmps := tmps, defers := [{ target := .collected D, args := #[] }] } w := by
  have h : LeavesInM Fence.wide n P fn tmps R [{ target := .collected D, args := #[] }] .returning w :=
    ⟨by simp, .inl ⟨_, _, rfl, run_takeDeferred hD, _, hv, hR⟩⟩
  rcases he with rfl | rfl <;> exact h
end Go.Proofs.Ytcfinlmocgbnbaa.XB
namespace Go.Proofs.Ytcfinlmocgbnbaa.XB
open Go.RowKit Go.Shelf Go.Proofs.YtcfinlmocgbnbaaW.PrintWords
attribute [local go_sem] Oper.semAt_some
variable {F : Fence} {n : Nat} {P : Program}
theorem assign_one (l rid d p ty : Nat) (pos : String) (v : Value) (tmps : Array Value) (W : World) (K : Act → World → Prop) (hp : p < tmps.size)
    (hK : K { tmps := (tmps.setIfInBounds p v).setIfInBounds d v, defers := [] } W) :
    (Code.region rid #[{ dst := some d, op := Op.assign (Operand.tmp p), type := ty, pos := pos, after := #[], guard := none }] false).wpIn (F.inRound l) n P (Exit.then K (fun _ _ _ => False)) { tmps := (#[p].zip #[v]).foldl (fun t (p, v) => t.setIfInBounds p v) tmps, defers := [] } W := by
  have hv : ((tmps.setIfInBounds p v)[p]?).getD undef = v := by simp [hp]
  have hv2 : (tmps.setIfInBounds p v).getD p undef = v := by simpa using hv
  gi_wp2
  exact hK
end Go.Proofs.Ytcfinlmocgbnbaa.XB
namespace Go.Proofs.Ytcfinlmocgbnbaa.XB
open Go.RowKit Go.Shelf Go.Proofs.YtcfinlmocgbnbaaW.PrintWords
end Go.Proofs.Ytcfinlmocgbnbaa.XB
namespace Go.Proofs.Ytcfinlmocgbnbaa.XB
open Go.RowKit Go.Shelf Go.Proofs.YtcfinlmocgbnbaaW.PrintWords
theorem keeps_below {B : Nat} {W W1 : World} (h : Below W.heap.size W W1) : KeepsFrom B W W1 := ⟨h.size, fun _ _ _ hk _ => blk_same hk h⟩
theorem keeps_set {B : Nat} {W W1 : World} (h : KeepsFrom B W W1) (p : Addr) (u : Value) : KeepsFrom B W (W1.setCell p u) := h.trans ((KeepsOthers.setCell _ _ _).from _)
theorem blk_kept {α : Type} {d : Kd α} {e base : Nat} {W W1 : World} {ok : Nat → Prop} {v : Value} {xs : List α} (hR : d.R e W base ok v xs) (h : Kept W W1 (fun k => some k = v.ownBlock)) {g : Nat} {cs : Array Value} {t : TypeId} (hg : W.heap[g]? = some (.cells cs t (0, 0))) (ht : t ≠ e) :
    W1.heap[g]? = some (.cells cs t (0, 0)) :=
  (h.2 g (blk_lt hg) (fun hs => by obtain ⟨cells, hc⟩ := Kd.R_typed hR g hs.symm; rw [hc] at hg; cases hg; exact ht rfl)).trans hg
end Go.Proofs.Ytcfinlmocgbnbaa.XB
namespace Go.Proofs.Ytcfinlmocgbnbaa.XB
open Go.RowKit Go.Shelf Go.Proofs.YtcfinlmocgbnbaaW.PrintWords
section
variable {w : World} {g : Nat} {t : TypeId} {a b c d : Value}
theorem put20 (h : w.heap[g]? = some (.cells #[a, b] t (0, 0))) (v : Value) : (w.setCell ⟨g, 0, none⟩ v).heap[g]? = some (.cells #[v, b] t (0, 0)) := blk_set h 0 v
theorem put21 (h : w.heap[g]? = some (.cells #[a, b] t (0, 0))) (v : Value) : (w.setCell ⟨g, 1, none⟩ v).heap[g]? = some (.cells #[a, v] t (0, 0)) := blk_set h 1 v
end
theorem bkD {w : World} {g : Nat} {o : Obj} (h : w.heap[g]? = some o) : w.drew.heap[g]? = some o := h
theorem own_ne {α : Type} {d : Kd α} {e base g : Nat} {W : World} {ok : Nat → Prop} {v : Value} {xs : List α} (hR : d.R e W base ok v xs) {cs : Array Value} {t : TypeId} (hg : W.heap[g]? = some (.cells cs t (0, 0))) (ht : t ≠ e) : ∀ k, some k = v.ownBlock → k ≠ g := by
  rintro k hs rfl
  obtain ⟨cells, hc⟩ := Kd.R_typed hR _ hs.symm
  rw [hc] at hg
  cases hg
  exact ht rfl
end Go.Proofs.Ytcfinlmocgbnbaa.XB
end
section
set_option linter.unusedVariables false
namespace Go.Proofs.Ytcfinlmocgbnbaa.Sq
open Go.RowKit Go.Proofs.YtcfinlmocgbnbaaW.PrintWords Go.Proofs.YtcfinlmocgbnbaaW.PrintLast Go.Proofs.YtcfinlmocgbnbaaW.PrintMore
theorem append_keep {P : Program} (w : World) (base : Nat) (t ty e : TypeId) (i : TypeInfo) (z : Value) (size bytes : Nat) (ht : P.underlying t = some (.slice e)) (hi : P.info? e = some i) (hz : i.zero = some z)
    (hsize : i.size = size) (hby : i.bytes = bytes) (hzs : z.cells.size = size) (hsz : 0 < size)
    (v : Value) (n : Nat) (xs : List Value) (hown : w.ownsRow base e size v n xs)
    (ad : Addr) (m c : Nat) (news : List Value) (hl : news.length = m * size) (hnews : ∀ j u, news[j]? = some u → w.cell? (ad.add j) = some u) (h1 : ∀ u ∈ news, u.oneCell' = true)
    (h63 : n + m ≤ maxLen) (hbytes : (n + m) * bytes ≤ 140737488355328) (v' : Value) (w' : World) (hr : (Builtin.append_ #[t, t] ty #[v, .slice (some ad) m c]).run P w = .ok v' w') :
    ∀ g cap, v = .slice (some ⟨g, 0, none⟩) n cap → ∀ j, j < n * size → w'.cell? ⟨g, j, none⟩ = w.cell? ⟨g, j, none⟩ := by
  intro g cap hv j hj
  subst hv
  obtain ⟨hlen, h2⟩ := hown
  rcases h2 with ⟨h0, _⟩ | ⟨g', cap', cur, hv, hb, hh, hnc, hcm, hcs, htk⟩
  · cases h0
  injection hv with e1 e2 e3
  injection e1 with e1
  injection e1 with e1
  subst e1
  subst e3
  have hlt : g < w.heap.size := (Array.getElem?_eq_some_iff.1 hh).1
  by_cases hroom : n + m ≤ cap
  · have hb2 : ∀ q, q < news.length → n * size + q < cur.size := fun q hq => by
      rw [hcs]
      have h3 : (n + m) * size ≤ cap * size := Nat.mul_le_mul_right _ hroom
      rw [Nat.add_mul] at h3
      omega
    have hrun := run_append_room_cells (P := P) w t ty e i ht hi g 0 n cap ad m c news (by rw [hsize]; exact hl) hnews h1 hroom
      (fun q hq => by
        rw [hsize, Nat.zero_add]
        have h4 := hb2 q hq
        rw [blk_cell hh]
        simp [h4])
      (fun q hq => by
        rw [hsize, Nat.zero_add]
        exact blk_frozen hh _)
    rw [hr] at hrun
    injection hrun with _ e5
    rw [e5]
    refine World.cell?_setCells_out g news _ w ⟨g, j, none⟩ (fun _ _ => .inl ?_)
    show j < 0 + n * i.size
    rw [hsize]
    omega
  · obtain ⟨v2, w2, hr2, _, hg⟩ := run_append_arg_grows (P := P) w t ty e i z size bytes ht hi hz hsize hby hzs hsz ⟨g, 0, none⟩ n cap xs hlen
      (fun q u hq => by
        rw [Addr.add_lit, Nat.zero_add]
        rw [← htk, List.getElem?_take] at hq
        split at hq
        · rw [blk_cell hh, ← hq]
          simp
        · cases hq) ad m c news hl hnews (by omega) h63 hbytes
    rw [hr] at hr2
    injection hr2 with _ e5
    rw [e5]
    exact World.grownBy.cell_far hg _ hlt (by simp)
namespace Kd
variable {P : Program} {ops : Array Oper} {o : Oper} {rest : List Oper} {a : Act} {Q : Exit → Act → World → Prop} {α : Type}
open Go.Proofs.YtcfinlmocgbnbaaW.PrintWords.Kd
theorem R_append_keep (d : Kd α) {w0 W : World} (base : Nat) (hgd : o.guard = none) (s x : Operand) (t e : TypeId) (z : Value) (bytes : Nat)
    (ho : o.op = .call { callee := .builtin .append, args := #[s, x], argTypes := #[t, t] })
    (ht : P.underlying t = some (.slice e)) (hinfo : (P.info? e).map (fun i => (i.zero, i.size, i.bytes)) = some (some z, d.sz, bytes)) (hz : z.cells.size = d.sz) (hs0 : 0 < d.sz) (hb0 : 0 < bytes)
    (v : Value) (xs : List α) (p : α) (cs : List Value) (ok okp : Nat → Prop) (hs : a.eval s = v) (hx : a.eval x = .slice (some ⟨W.heap.size, 0, none⟩) 1 1) (hp : d.M W base okp p cs) (hokp : ∀ k, okp k → ok k ∧ some k ≠ v.ownBlock) (hfresh : ∀ k, W.heap.size ≤ k → ok k)
    (HO : d.R e W base ok v xs) (HB : Below base w0 W) (hbase : base ≤ W.heap.size) (hl : (xs.length + 1) * bytes ≤ 140737488355328)
    (h : ∀ v1 w1, d.R e w1 base ok v1 (xs ++ [p]) → Below base w0 w1 → W.grownBy w1 v.ownBlock → (v1.ownBlock = v.ownBlock ∨ ∃ b, v1.ownBlock = some b ∧ W.heap.size ≤ b) → (∀ g cap, v = .slice (some ⟨g, 0, none⟩) xs.length cap → ∀ j, j < xs.length * d.sz → w1.cell? ⟨g, j, none⟩ = W.cell? ⟨g, j, none⟩) → wpList P ops Q rest (a.put o.dst v1) w1) :
    wpList P ops Q (o :: rest) a (W.alloc (.cells cs.toArray e)) := by
  obtain ⟨h0, inner, hown, hr⟩ := HO
  obtain ⟨i0, hi, hzz⟩ := Option.map_eq_some_iff.1 hinfo
  simp only [Prod.mk.injEq] at hzz
  obtain ⟨hz0, hz1, hz2⟩ := hzz
  have hlen : xs.length + 1 ≤ 140737488355328 := Nat.le_trans (Nat.le_mul_of_pos_right _ hb0) hl
  have hys := d.K_len (d.K_of_M hp)
  have h1 := d.K_one (d.K_of_M hp)
  have hn : ∀ j u, cs[j]? = some u → (W.alloc (.cells cs.toArray e)).cell? ((⟨W.heap.size, 0, none⟩ : Addr).add j) = some u := by
    simpa using World.news_of_block (cs := cs.toArray) (t := e) (fr := (0, 0)) (heap_alloc_new W (.cells cs.toArray e))
  refine wpList_plain hgd fun K hK => ?_
  obtain ⟨v', w', hrun, h2, h3, _, h5⟩ := run_append_own_at (P := P) (W.alloc (.cells cs.toArray e)) base t o.type e i0 z d.sz bytes ht hi hz0 hz1 hz2 hz hs0 v xs.length inner (hown.alloc _) ⟨W.heap.size, 0, none⟩ 1 1 cs (by rw [hys]; simp) hn h1 (by simp only [maxLen]; omega) hl (by simp; omega)
  have hk := append_keep (P := P) (W.alloc (.cells cs.toArray e)) base t o.type e i0 z d.sz bytes ht hi hz0 hz1 hz2 hz hs0 v xs.length inner (hown.alloc _) ⟨W.heap.size, 0, none⟩ 1 1 cs (by rw [hys]; simp) hn h1 (by simp only [maxLen]; omega) hl v' w' hrun
  unfold Oper.wp execOp
  simp only [ho, resolve, invoke, builtin, Sem.run_bind, Sem.run_pure, Result.andThen_ok, List.map_toArray, List.map_cons, List.map_nil, hs, hx, hrun]
  have hg := World.grownBy.trans (World.grownBy_alloc W (.cells cs.toArray e) v.ownBlock) h3
  have hat : v'.ownBlock = v.ownBlock ∨ ∃ b, v'.ownBlock = some b ∧ W.heap.size ≤ b := by
    rcases h5 with h5 | h5
    · exact .inl h5
    · exact .inr ⟨_, h5, by simp⟩
  refine hK _ _ (h v' w' (R_appended h0 hr hp hokp hfresh h2 hg hat) ((HB.alloc hbase _).grown h3 (by simp; omega) (own_base hown)) hg hat ?_)
  intro g cap hv j hj
  refine (hk g cap hv j hj).trans ?_
  obtain ⟨g', cap', hf, _, hlt⟩ := World.ownsRow.form hown (by rcases Nat.eq_zero_or_pos xs.length with e | e; (rw [e] at hj; simp at hj); exact e)
  rw [hv] at hf
  injection hf with e1 _ _
  injection e1 with e1
  injection e1 with e1
  subst e1
  exact World.grownBy.cell_far (World.grownBy_alloc W (.cells cs.toArray e) none) _ hlt (by simp)
theorem C_append_keep {base : Nat} {ok : Nat → Prop} {W w1 : World} {v : Value} {xs ys : List Int} {g m : Nat} (HO : Kd.R (Kd.int .u8) 5 W base ok v xs) (hg : W.grownBy w1 v.ownBlock) (hkp : ∀ g cap, v = .slice (some ⟨g, 0, none⟩) xs.length cap → ∀ j, j < xs.length * (Kd.int .u8).sz → w1.cell? ⟨g, j, none⟩ = W.cell? ⟨g, j, none⟩)
    (hC : Kd.C (Kd.int .u8) W (some ⟨g, 0, none⟩) m ys) (hm : m ≤ xs.length) : Kd.C (Kd.int .u8) w1 (some ⟨g, 0, none⟩) m ys := by
  refine ⟨hC.1, hC.2.1, fun h0 => ?_⟩
  obtain ⟨ad, e, f⟩ := hC.2.2 h0
  obtain rfl := Option.some.inj e
  refine ⟨_, rfl, fun j p hj => ?_⟩
  obtain ⟨c, h1, h2, h3⟩ := f j p hj
  refine ⟨c, h1, h2, fun i u hu => ?_⟩
  have h4 := h3 i u hu
  have hjm : j < m := by have := (List.getElem?_eq_some_iff.1 hj).1; rw [hC.1] at this; exact this
  have hi0 : i = 0 := by
    have := (List.getElem?_eq_some_iff.1 hu).1
    have e1 : (Kd.int .u8).sz = 1 := rfl
    omega
  subst hi0
  have e1 : (Kd.int .u8).sz = 1 := rfl
  rw [e1, Nat.mul_one, Nat.add_zero, Addr.add_lit, Nat.zero_add] at h4 ⊢
  obtain ⟨g', cap, hf, _, _, _⟩ := R_form HO (by omega)
  by_cases hb : g = g'
  · subst hb
    rw [hkp g cap hf j (by rw [e1]; omega)]
    exact h4
  · have hlt := World.block_lt_of_cell? W _ h4
    exact (World.grownBy.cell_far hg ⟨g, j, none⟩ hlt (by rw [hf]; simp [Value.ownBlock]; exact hb)).trans h4
end Kd
end Go.Proofs.Ytcfinlmocgbnbaa.Sq
end
section
namespace Go.Proofs.Ytcfinlmocgbnbaa.Pr
open Go.Proofs.Ytcfinlmocgbnbaa.Sq Go.RowKit Go.Proofs.YtcfinlmocgbnbaaW.PrintWords Go.Proofs.YtcfinlmocgbnbaaW.PrintLast Go.Proofs.YtcfinlmocgbnbaaW.PrintMore
attribute [local go_sem] max2_int min2_int max_two min_two max_three min_three max_four min_four
set_option linter.unusedVariables false
set_option linter.unusedSimpArgs false
def vault_put_int.l0 : Nat → List Int → Int → Int → Option (List Int)
 | 0, _, _, _ => none
 | k + 1, x0, x1, x7 => if x7 ≥ 0 then (if 0 ≤ (wrap64 (8 * x7)) then (if x0.length < 140737488355328 then (vault_put_int.l0 k (x0 ++ [(shr .i64 x1 (wrap64 (8 * x7))) % 256]) x1 (wrap64 (x7 - 1))) else (none)) else (none)) else (some x0)
def vault_put_int.f (k : Nat) (l0 : List Int) (a1 : Int) (a2 : Int) : Option (List Int) := vault_put_int.l0 k l0 a1 (wrap64 (a2 - 1))
theorem vault_put_int.mono_l : ∀ k, (∀ y0 y1 y2, LeO (vault_put_int.l0 k y0 y1 y2) (vault_put_int.l0 (k + 1) y0 y1 y2))
 | 0 => fun _ _ _ r h => by simp [vault_put_int.l0] at h
 | k + 1 => by
  have ih0 := vault_put_int.mono_l k
  ·intro y0 y1 y2
   unfold vault_put_int.l0
   repeat' first
   | (with_reducible exact ih0 _ _ _)
   | (with_reducible exact LeO.refl _)
   | (with_reducible exact LeO.none _)
   | (with_reducible refine LeO.ite ?_ ?_)
   | (with_reducible refine LeO.bind ?_ (fun _ => ?_))
   | exact ih0 _ _ _
   | exact LeO.none _
   | refine LeO.ite ?_ ?_
   | refine LeO.bind ?_ (fun _ => ?_)
theorem vault_put_int.mono : ∀ a0 a1 a2 k, LeO (vault_put_int.f k a0 a1 a2) (vault_put_int.f (k + 1) a0 a1 a2) := by
 intro a0 a1 a2 k
 have ih0 := vault_put_int.mono_l k
 unfold vault_put_int.f
 repeat' first
  | (with_reducible exact ih0 _ _ _)
  | (with_reducible exact LeO.refl _)
  | (with_reducible exact LeO.none _)
  | (with_reducible refine LeO.ite ?_ ?_)
  | (with_reducible refine LeO.bind ?_ (fun _ => ?_))
  | exact ih0 _ _ _
  | exact LeO.none _
  | refine LeO.ite ?_ ?_
  | refine LeO.bind ?_ (fun _ => ?_)
set_option maxHeartbeats 8000000 in
set_option maxRecDepth 100000 in
theorem vault_put_int.calls (k : Nat) (P0_ : Nat → Prop) (u9000_ : Value) (l0 : List Int) (a1 : Int) (a2 : Int) (r : List Int) (w0 w : World) (hB : Below w0.heap.size w0 w) (ho0 : Kd.R (Kd.int .u8) 5 w w0.heap.size P0_ u9000_ l0) (h : vault_put_int.f k l0 a1 a2 = some r) :
  Calls Try.prog 78 #[u9000_, .int .i64 a1, .int .i64 a2] w fun e w' => ∃ v0_ : Value, e = .returned (v0_) ∧ Kd.R (Kd.int .u8) 5 w' w0.heap.size (fun k_ => (P0_ k_ ∨ w.heap.size ≤ k_)) v0_ r ∧ Below w0.heap.size w0 w' ∧ Kept w w' (fun k_ => P0_ k_) := by
 have HO0 := am (show Kd.R (Kd.int .u8) 5 w w0.heap.size (fun k_ => (P0_ k_ ∨ w.heap.size ≤ k_)) u9000_ l0 from Kd.R_mono ho0 (fun k_ hk => (.inl hk)))
 have HK := am (Kept.refl w (fun k_ => P0_ k_))
 have HW0 := am hB.size
 have HB := am hB
 clear hB
 have H : (vault_put_int.l0 k l0 a1 (wrap64 (a2 - 1))) = some r := h
 clear h
 have H' := am H
 clear H
 go_enter Try.func78, Try.ntmps78
 go_wp2
 go_loopg [0, 7] k (fun kq v0 v7 w' => ∃ (x0_1 : List Int) (x7_1 : Int), v7 = .int .i64 x7_1 ∧ Aside0 (vault_put_int.l0 kq x0_1 a1 x7_1 = some r) ∧ Aside0 (kq ≤ k) ∧ Aside0 (Kd.R (Kd.int .u8) 5 w' w0.heap.size (fun k_ => (P0_ k_ ∨ w.heap.size ≤ k_)) v0 x0_1) ∧ Aside0 (Kept w w' (fun k_ => P0_ k_)) ∧ Aside0 (Below w0.heap.size w0 w'))
 case atStart => exact ⟨(l0), (wrap64 (a2 - 1)), (by first | rfl | (simp; done) | (simp [*]; done)), H', ⟨Nat.le_refl _⟩, ⟨by (with_reducible repeat first | apply ra | apply rn | apply rd); exact HO0.out⟩, ⟨by repeat (first | (with_reducible first | exact HK.out | apply Kept.alloc | apply Kept.drewN | apply Kept.drew) | exact HK.out)⟩, ⟨by repeat first | (with_reducible first | exact HB.out | apply ba | apply bn | apply bd | refine bs (by assumption) ?_) | exact HB.out⟩⟩
 clear H'
 try clear p2
 obtain ⟨x0_1, x7_1, rfl, HA, HK1, HO_0, HK, HB⟩ := hrel
 cases gk with
 | zero => exact absurd HA.out (by simp [vault_put_int.l0])
 | succ k1 => ?_
 have H := HA.out
 clear HA
 simp only [vault_put_int.l0] at H
 by_cases c4 : x7_1 ≥ 0
 rotate_left
 ·rw [if_neg c4] at H
  have c4b0 : decide (0 ≤ x7_1) = false := decide_eq_false c4
  clear c4
  obtain rfl := Option.some.inj H
  go_wp2
  go_ret
  exact ⟨_, by first | rfl | (simp <;> rfl) | (simp [*] <;> rfl), by (with_reducible repeat first | apply ra | apply rn | apply rd); exact HO_0.out, by repeat first | (with_reducible first | exact HB.out | apply ba | apply bn | apply bd | refine bs (by assumption) ?_) | exact HB.out, by repeat (first | (with_reducible first | exact HK.out | apply Kept.alloc | apply Kept.drewN | apply Kept.drew) | exact HK.out)⟩
 rw [if_pos c4] at H
 have c4b0 : decide (0 ≤ x7_1) = true := decide_eq_true c4
 clear c4
 obtain ⟨ji5, hji5⟩ : ∃ j_ : Int, (wrap64 (8 * x7_1)) = j_ := ⟨_, rfl⟩
 replace H : (if 0 ≤ (ji5) then (if x0_1.length < 140737488355328 then (vault_put_int.l0 k1 (x0_1 ++ [(shr .i64 a1 (ji5)) % 256]) a1 (wrap64 (x7_1 - 1))) else (none)) else (none)) = some r := by first | (rw [hji5] at H; exact H) | (simp only [hji5] at H ⊢; exact H)
 have hji5w : (IntKind.i64.wrap (8 * x7_1)) = ji5 := (i64_w _).trans hji5
 by_cases c6 : 0 ≤ (ji5)
 rotate_left
 ·rw [if_neg c6] at H
  exact absurd H (by simp)
 rw [if_pos c6] at H
 have c6b0 := eq_true c6
 have c6b1 : decide (0 ≤ (ji5)) = true := decide_eq_true c6
 clear c6
 obtain ⟨ji7, hji7⟩ : ∃ j_ : Int, (shr .i64 a1 (ji5)) = j_ := ⟨_, rfl⟩
 replace H : (if x0_1.length < 140737488355328 then (vault_put_int.l0 k1 (x0_1 ++ [(ji7) % 256]) a1 (wrap64 (x7_1 - 1))) else (none)) = some r := by first | (rw [hji7] at H; exact H) | (simp only [hji7] at H ⊢; exact H)
 have hji7_ : (a1 / 2 ^ min (ji5).toNat 64) = ji7 := hji7
 have hji7z : (ji5) ≤ 64 → (a1 / 2 ^ (ji5).toNat) = ji7 := shr_small hji7
 by_cases c8 : x0_1.length < 140737488355328
 rotate_left
 ·rw [if_neg c8] at H
  exact absurd H (by simp)
 rw [if_pos c8] at H
 have LMc8 := Aside0.mk c8
 clear c8
 obtain ⟨yz1, hyz1⟩ : ∃ y_ : List Int, y_ = (x0_1 ++ [(ji7) % 256]) := ⟨_, rfl⟩
 replace H : (vault_put_int.l0 k1 yz1 a1 (wrap64 (x7_1 - 1))) = some r := by first | (rw [hyz1]; with_reducible exact H) | (have H2_ := (Option.bind_some _ _).symm.trans H; rw [hyz1]; with_reducible exact H2_) | (have H2_ := (Option.bind_some _ _).symm.trans H; with_reducible exact H2_) | with_reducible exact H | (rw [hyz1]; exact H) | exact H
 have Nyz1 := am hyz1
 clear hyz1
 have H' := am H
 clear H
 go_wp2_with (first | ((with_reducible refine gate_builtin (b := .append) (xs := #[.tmp 14, .tmp 20]) rfl ?_); at_builtin; refine Kd.R_append (Kd.int .u8) (w0 := w0) w0.heap.size rfl (.tmp 14) (.tmp 20) 49 5 (.int .u8 0) 1 rfl Try.underlying49 info5 rfl (by decide) (by omega) u0 x0_1 ((ji7) % 256) [.int .u8 ((ji7) % 256)] (fun k_ => (P0_ k_ ∨ w.heap.size ≤ k_)) (fun _ => False) rfl rfl ?aP (fun _ hk => hk.elim) ?aF ?aO ?aB ?aS ?aL ?_; (case aP => exact rfl); (case aB => exact (pb HB)); (case aF => exact (fun k_ hk => (.inr (Nat.le_trans (by first | exact HK.out.1 | exact (show Kept w _ (fun k_ => P0_ k_) from by repeat (first | (with_reducible first | exact HK.out | apply Kept.alloc | apply Kept.drewN | apply Kept.drew) | exact HK.out)).1) hk)))); (case aO => exact (pr HO_0)); (case aS => exact (below_size (pb HB))); (case aL => have := LMc8.out; omega); intro vz2 w9 ho hb hg hat; rw [← Nyz1.out] at ho; have n0_ := am (hb); have n1_ := am (Kept.of_grown (S := (fun k_ => P0_ k_)) hg (by repeat (first | (with_reducible first | exact HK.out | apply Kept.alloc | apply Kept.drewN | apply Kept.drew) | exact HK.out)) (fun k_ e_ => (HO_0.out.1 k_ e_))); have n2_ := am (ho); clear HB; clear HK; clear HO_0; have HB := n0_; have HK := n1_; have HOz3 := n2_; clear n0_ n1_ n2_; clear ho hb hg hat))
 go_roundg k1
 case measure => have := HK1.out; omega
 case rel => exact ⟨(yz1), (wrap64 (x7_1 - 1)), (by first | rfl | (simp; done) | (simp [*]; done)), H', ⟨by have := HK1.out; omega⟩, ⟨by (with_reducible repeat first | apply ra | apply rn | apply rd); exact HOz3.out⟩, ⟨by repeat (first | (with_reducible first | exact HK.out | apply Kept.alloc | apply Kept.drewN | apply Kept.drew) | exact HK.out)⟩, ⟨by repeat first | (with_reducible first | exact HB.out | apply ba | apply bn | apply bd | refine bs (by assumption) ?_) | exact HB.out⟩⟩
end Go.Proofs.Ytcfinlmocgbnbaa.Pr
end
section
namespace Go.Proofs.Ytcfinlmocgbnbaa.Pr
open Go.Proofs.Ytcfinlmocgbnbaa.Sq Go.RowKit Go.Proofs.YtcfinlmocgbnbaaW.PrintWords Go.Proofs.YtcfinlmocgbnbaaW.PrintLast Go.Proofs.YtcfinlmocgbnbaaW.PrintMore
attribute [local go_sem] max2_int min2_int max_two min_two max_three min_three max_four min_four
set_option linter.unusedVariables false
set_option linter.unusedSimpArgs false
def vault_book_head.l0 : Nat → List Int → List Int → Int → Int → Option (ByteArray)
 | 0, _, _, _, _ => none
 | k + 1, x3, x21, x22, x23 => if x23 < x22 then (if 0 ≤ x23 then (if x23 < (x21.length : Int) then (if x3.length < 140737488355328 then (vault_book_head.l0 k (x3 ++ [Go.bits .xor .u8 (rd x21 x23) 255]) x21 x22 (wrap64 (x23 + 1))) else (none)) else (none)) else (none)) else (if 0 ≤ (wrap64 (64 - (x3.length : Int))) then (if x3.length + (wrap64 (64 - (x3.length : Int)) : Int).toNat < 140737488355328 then (some (strOfNums (x3 ++ List.replicate (wrap64 (64 - (x3.length : Int)) : Int).toNat 0))) else (none)) else (none))
def vault_book_head.f (k : Nat) (l0_0 : List ByteArray) (l0_1 : List (S24)) (a0_2 : Int) (a0_3 : Int) (a0_4 : Int) : Option (ByteArray) := (vault_put_int.f k ([] : List Int) a0_2 8).bind fun tz2 => ((vault_put_int.f k tz2 a0_3 4).bind fun tz5 => ((vault_put_int.f k tz5 a0_4 4).bind fun tz8 => (if 16 ≤ (tz8.length : Int) then ((some (tz8.take 16 : List Int)).bind fun yz11 => (vault_book_head.l0 k tz8 yz11 (yz11.length : Int) 0)) else (none))))
theorem vault_book_head.mono_l : ∀ k, (∀ y0 y1 y2 y3, LeO (vault_book_head.l0 k y0 y1 y2 y3) (vault_book_head.l0 (k + 1) y0 y1 y2 y3))
 | 0 => fun _ _ _ _ r h => by simp [vault_book_head.l0] at h
 | k + 1 => by
  have ih0 := vault_book_head.mono_l k
  ·intro y0 y1 y2 y3
   unfold vault_book_head.l0
   repeat' first
   | (with_reducible exact ih0 _ _ _ _)
   | (with_reducible exact vault_put_int.mono _ _ _ _)
   | (with_reducible exact LeO.refl _)
   | (with_reducible exact LeO.none _)
   | (with_reducible refine LeO.ite ?_ ?_)
   | (with_reducible refine LeO.bind ?_ (fun _ => ?_))
   | exact ih0 _ _ _ _
   | exact vault_put_int.mono _ _ _ _
   | exact LeO.none _
   | refine LeO.ite ?_ ?_
   | refine LeO.bind ?_ (fun _ => ?_)
theorem vault_book_head.mono : ∀ a0 a1 a2 a3 a4 k, LeO (vault_book_head.f k a0 a1 a2 a3 a4) (vault_book_head.f (k + 1) a0 a1 a2 a3 a4) := by
 intro a0 a1 a2 a3 a4 k
 have ih0 := vault_book_head.mono_l k
 unfold vault_book_head.f
 repeat' first
  | (with_reducible exact ih0 _ _ _ _)
  | (with_reducible exact vault_put_int.mono _ _ _ _)
  | (with_reducible exact LeO.refl _)
  | (with_reducible exact LeO.none _)
  | (with_reducible refine LeO.ite ?_ ?_)
  | (with_reducible refine LeO.bind ?_ (fun _ => ?_))
  | exact ih0 _ _ _ _
  | exact vault_put_int.mono _ _ _ _
  | exact LeO.none _
  | refine LeO.ite ?_ ?_
  | refine LeO.bind ?_ (fun _ => ?_)
set_option maxHeartbeats 8000000 in
set_option maxRecDepth 100000 in
theorem vault_book_head.calls (k : Nat) (A0_0 : Option Addr) (c0_0 : Nat) (l0_0 : List ByteArray) (A0_1 : Option Addr) (c0_1 : Nat) (l0_1 : List (S24)) (a0_2 : Int) (a0_3 : Int) (a0_4 : Int) (r : ByteArray) (w : World) (hr0_0 : Kd.C Kd.string w A0_0 l0_0.length l0_0) (hc0_0 : l0_0.length ≤ c0_0) (hr0_1 : Kd.C k24 w A0_1 l0_1.length l0_1) (hc0_1 : l0_1.length ≤ c0_1) (h : vault_book_head.f k l0_0 l0_1 a0_2 a0_3 a0_4 = some r) :
  Calls Try.prog 56 #[.agg #[.slice A0_0 l0_0.length c0_0, .slice A0_1 l0_1.length c0_1, .int .i64 a0_2, .int .i64 a0_3, .int .i64 a0_4]] w fun e w' => e = .returned (.string r) ∧ Below w.heap.size w w' := by
 have hu89 := Try.underlying89
 have HR0_0 := am hr0_0
 have HC0_0 := am hc0_0
 clear hr0_0 hc0_0
 have HR0_1 := am hr0_1
 have HC0_1 := am hc0_1
 clear hr0_1 hc0_1
 have HB := am (Below.refl w.heap.size w)
 have H : ((vault_put_int.f k ([] : List Int) a0_2 8).bind fun tz2 => ((vault_put_int.f k tz2 a0_3 4).bind fun tz5 => ((vault_put_int.f k tz5 a0_4 4).bind fun tz8 => (if 16 ≤ (tz8.length : Int) then ((some (tz8.take 16 : List Int)).bind fun yz11 => (vault_book_head.l0 k tz8 yz11 (yz11.length : Int) 0)) else (none))))) = some r := h
 clear h
 replace H := ob_ H
 obtain ⟨tz2, A20, H⟩ := H
 replace H : ((vault_put_int.f k tz2 a0_3 4).bind fun tz5 => ((vault_put_int.f k tz5 a0_4 4).bind fun tz8 => (if 16 ≤ (tz8.length : Int) then ((some (tz8.take 16 : List Int)).bind fun yz11 => (vault_book_head.l0 k tz8 yz11 (yz11.length : Int) 0)) else (none)))) = some r := H
 have A2 := Aside0.mk A20
 clear A20
 replace H := ob_ H
 obtain ⟨tz5, A30, H⟩ := H
 replace H : ((vault_put_int.f k tz5 a0_4 4).bind fun tz8 => (if 16 ≤ (tz8.length : Int) then ((some (tz8.take 16 : List Int)).bind fun yz11 => (vault_book_head.l0 k tz8 yz11 (yz11.length : Int) 0)) else (none))) = some r := H
 have A3 := Aside0.mk A30
 clear A30
 replace H := ob_ H
 obtain ⟨tz8, A40, H⟩ := H
 replace H : (if 16 ≤ (tz8.length : Int) then ((some (tz8.take 16 : List Int)).bind fun yz11 => (vault_book_head.l0 k tz8 yz11 (yz11.length : Int) 0)) else (none)) = some r := H
 have A4 := Aside0.mk A40
 clear A40
 by_cases c5 : 16 ≤ (tz8.length : Int)
 rotate_left
 ·rw [if_neg c5] at H
  exact absurd H (by simp)
 rw [if_pos c5] at H
 have c5b0 := eq_true c5
 have c5b1 : decide (16 ≤ (tz8.length : Int)) = true := decide_eq_true c5
 clear c5
 obtain ⟨yz11, hyz11⟩ : ∃ y_ : List Int, y_ = (tz8.take 16) := ⟨_, rfl⟩
 replace H : (vault_book_head.l0 k tz8 yz11 (yz11.length : Int) 0) = some r := by first | (rw [hyz11]; with_reducible exact H) | (have H2_ := (Option.bind_some _ _).symm.trans H; rw [hyz11]; with_reducible exact H2_) | (have H2_ := (Option.bind_some _ _).symm.trans H; with_reducible exact H2_) | with_reducible exact H | (rw [hyz11]; exact H) | exact H
 have Nyz11 := am hyz11
 clear hyz11
 have H' := am H
 clear H
 go_enter Try.func56, Try.ntmps56
 go_wp2_with (first | ((with_reducible refine gate_dst (N := 1) rfl ?_); refine box_event ?hg (N := 1) ?hd (cs := #[.slice A0_0 l0_0.length c0_0, .slice A0_1 l0_1.length c0_1, .int .i64 a0_2, .int .i64 a0_3, .int .i64 a0_4]) (t := 89) ?hr ?_; (case hd => rfl); (case hg => rfl); (case hr => first | (go_simp; done) | (go_simp; rfl)); intro gbz1 hg w6 hbox hb; have n0_ := am (below_step (pb HB) hb); have n1_ := am (hbox); have n2_ := ge_ hg (pb HB); have n3_ := ge_ hg (pb HB); clear HB; have HB := n0_; have BKz1 := n1_; have GWz1 := n2_; have GEz1 := n3_; clear n0_ n1_ n2_ n3_; clear hb hbox hg; obtain ⟨hcz7_0, hcz7_1, hcz7_2, hcz7_3, hcz7_4⟩ := bc5 BKz1; obtain ⟨hfz7_0, hfz7_1, hfz7_2, hfz7_3, hfz7_4⟩ := bf5 BKz1) | ((with_reducible refine gate_callee (f := 78) rfl ?_); refine goesL_ (some 9) rfl rfl Try.func78 (by kernel_rfl) rfl #[.slice none 0 0, .int .i64 a0_2, .int .i64 8] rfl (by (try simp only [List.map_toArray, List.map_cons, List.map_nil]) <;> rfl) ?_; (refine (vault_put_int.calls k (fun k_ => some k_ = (.slice none 0 0 : Value).ownBlock) (.slice none 0 0) ([] : List Int) a0_2 8 tz2 w _ ?side1 ?side2 A2.out).mono ?_); (case side1 => repeat (first | (with_reducible first | exact HB.out | apply below_alloc | apply pw_below_drewN | apply below_drew1 | refine below_set ?_ GEz1.out) | exact HB.out)); (case side2 => exact Kd.R_nil _ _ _ _ _); rintro e w8 ⟨vz3, rfl, ho0, hb, hkp⟩; refine ⟨_, rfl, ?_⟩; have n0_ := am (blk_kept (pk BKz1) hkp (fun hs_ => (fun e_ => by simp [Value.ownBlock] at e_) hs_)); have n1_ := am (Kd.R_mono (ok' := fun k_ => True) ho0 (fun k_ hk_ => trivial)); have n2_ := am (hb); clear BKz1; clear HB; have BKz1 := n0_; have HOz4 := n1_; have HB := n2_; clear n0_ n1_ n2_; (try clear hkp); obtain ⟨hcz9_0, hcz9_1, hcz9_2, hcz9_3, hcz9_4⟩ := bc5 BKz1; obtain ⟨hfz9_0, hfz9_1, hfz9_2, hfz9_3, hfz9_4⟩ := bf5 BKz1; obtain ⟨Ao10, co10, eo10⟩ := Kd.R_slice HOz4.out; subst eo10) | ((with_reducible refine gate_callee (f := 78) rfl ?_); refine goesL_ (some 14) rfl rfl Try.func78 (by kernel_rfl) rfl #[.slice Ao10 tz2.length co10, .int .i64 a0_3, .int .i64 4] rfl (by (try simp only [List.map_toArray, List.map_cons, List.map_nil]) <;> rfl) ?_; (with_reducible refine (vault_put_int.calls k (fun k_ => some k_ = (.slice Ao10 tz2.length co10 : Value).ownBlock) (.slice Ao10 tz2.length co10) tz2 a0_3 4 tz5 w _ ?side1 ?side2 A3.out).mono ?_); (case side1 => repeat (first | (with_reducible first | exact HB.out | apply below_alloc | apply pw_below_drewN | apply below_drew1 | refine below_set ?_ GEz1.out) | exact HB.out)); (case side2 => exact Kd.R_tight rfl HOz4.out); rintro e w11 ⟨vz6, rfl, ho0, hb, hkp⟩; refine ⟨_, rfl, ?_⟩; have n0_ := am (blk_kept (pk BKz1) hkp (fun hs_ => (fun e_ => (Kd.R_ne HOz4.out BKz1.out (by decide)) e_) hs_)); have n1_ := am (Kd.R_mono (ok' := fun k_ => True) ho0 (fun k_ hk_ => trivial)); have n2_ := am (hb); clear BKz1; clear HB; clear HOz4; have BKz1 := n0_; have HOz7 := n1_; have HB := n2_; clear n0_ n1_ n2_; (try clear hkp); obtain ⟨hcz12_0, hcz12_1, hcz12_2, hcz12_3, hcz12_4⟩ := bc5 BKz1; obtain ⟨hfz12_0, hfz12_1, hfz12_2, hfz12_3, hfz12_4⟩ := bf5 BKz1; obtain ⟨Ao13, co13, eo13⟩ := Kd.R_slice HOz7.out; subst eo13) | ((with_reducible refine gate_callee (f := 78) rfl ?_); refine goesL_ (some 19) rfl rfl Try.func78 (by kernel_rfl) rfl #[.slice Ao13 tz5.length co13, .int .i64 a0_4, .int .i64 4] rfl (by (try simp only [List.map_toArray, List.map_cons, List.map_nil]) <;> rfl) ?_; (with_reducible refine (vault_put_int.calls k (fun k_ => some k_ = (.slice Ao13 tz5.length co13 : Value).ownBlock) (.slice Ao13 tz5.length co13) tz5 a0_4 4 tz8 w _ ?side1 ?side2 A4.out).mono ?_); (case side1 => repeat (first | (with_reducible first | exact HB.out | apply below_alloc | apply pw_below_drewN | apply below_drew1 | refine below_set ?_ GEz1.out) | exact HB.out)); (case side2 => exact Kd.R_tight rfl HOz7.out); rintro e w14 ⟨vz9, rfl, ho0, hb, hkp⟩; refine ⟨_, rfl, ?_⟩; have n0_ := am (blk_kept (pk BKz1) hkp (fun hs_ => (fun e_ => (Kd.R_ne HOz7.out BKz1.out (by decide)) e_) hs_)); have n1_ := am (Kd.R_mono (ok' := fun k_ => True) ho0 (fun k_ hk_ => trivial)); have n2_ := am (hb); clear BKz1; clear HB; clear HOz7; have BKz1 := n0_; have HOz10 := n1_; have HB := n2_; clear n0_ n1_ n2_; (try clear hkp); obtain ⟨Ao16, co16, eo16⟩ := Kd.R_slice HOz10.out; subst eo16; have q15 : (16 : Int) ≤ ((tz8.length : Int) : Int) := of_decide_eq_true (by first | (with_reducible assumption) | assumption); obtain ⟨i015, hi015, _, hsz15, _⟩ := info_parts info5; have hroom15 : tz8.length ≤ co16 := (Kd.R_reads' HOz10.out).2.1; have hC15 : Kd.C (Kd.int .u8) _ Ao16 tz8.length tz8 := (Kd.R_reads' HOz10.out).2.2; have hcut15 := cut_to (P := Try.prog) 49 5 .i64 Try.underlying49 hi015 Ao16 tz8.length co16 16 (by omega) q15 hroom15; have hr15 := Kd.C_take (m := 16) hC15 (by omega); have hy15 : yz11.length = (16 : Int).toNat := (by rw [Nyz11.out, List.length_take]; omega); rw [← Nyz11.out] at hr15; rw [← hy15] at hcut15; have HRz14 := am hr15; have HCz14 := am (show yz11.length ≤ co16 from by omega); clear hr15 hC15 hroom15 hi015 hsz15; have KY15 := am hy15; clear hy15; have KL15 := am (show 16 ≤ tz8.length from by omega); replace q15 := eq_true q15))
 obtain ⟨g16_, cap16_, hf16_, _, _, _⟩ := Kd.R_form HOz10.out (by have := KL15.out; omega)
 injection hf16_ with e16a_ e16b_ e16c_
 subst e16a_
 subst e16c_
 go_loopg [3, 23] k (fun kq v3 v23 w' => ∃ (x3_1 : List Int) (x23_1 : Int), v23 = .int .i64 x23_1 ∧ Aside0 (vault_book_head.l0 kq x3_1 yz11 (yz11.length : Int) x23_1 = some r) ∧ Aside0 (kq ≤ k) ∧ Aside0 (Kd.R (Kd.int .u8) 5 w' w.heap.size (fun _ => True) v3 x3_1) ∧ Aside0 (w'.heap[gbz1]? = some (.cells #[(.slice A0_0 l0_0.length c0_0), (.slice A0_1 l0_1.length c0_1), .int .i64 a0_2, .int .i64 a0_3, .int .i64 a0_4] 89 (0, 0))) ∧ Aside0 (Below w.heap.size w w') ∧ Aside0 (Kd.C (Kd.int .u8) w' (some ⟨g16_, 0, none⟩) yz11.length yz11) ∧ Aside0 (yz11.length ≤ x3_1.length))
 case atStart => exact ⟨(tz8), (0), (by first | rfl | (simp; done) | (simp [*]; done)), H', ⟨Nat.le_refl _⟩, ⟨by (with_reducible repeat first | apply ra | apply rn | apply rd); exact HOz10.out⟩, ⟨by (with_reducible repeat (first | refine blk_drewN ?_ _ | refine bkD ?_ | refine bkA ?_ _)); exact BKz1.out⟩, ⟨by repeat first | (with_reducible first | exact HB.out | apply ba | apply bn | apply bd | refine bs (by assumption) ?_) | exact HB.out⟩, HRz14, ⟨by rw [Nyz11.out, List.length_take]; omega⟩⟩
 clear H'
 try clear q1
 try clear p2
 try clear c5
 try clear c5b0
 try clear c5b1
 try clear c7
 try clear q15
 try clear hcz12_0
 try clear hcz12_1
 try clear hcz12_2
 try clear hcz12_3
 try clear hcz12_4
 try clear hcz7_0
 try clear hcz7_1
 try clear hcz7_2
 try clear hcz7_3
 try clear hcz7_4
 try clear hcz9_0
 try clear hcz9_1
 try clear hcz9_2
 try clear hcz9_3
 try clear hcz9_4
 try clear hfz12_0
 try clear hfz12_1
 try clear hfz12_2
 try clear hfz12_3
 try clear hfz12_4
 try clear hfz7_0
 try clear hfz7_1
 try clear hfz7_2
 try clear hfz7_3
 try clear hfz7_4
 try clear hfz9_0
 try clear hfz9_1
 try clear hfz9_2
 try clear hfz9_3
 try clear hfz9_4
 try clear q15
 obtain ⟨x3_1, x23_1, rfl, HA, HK1, HO_3, BKz1, HB, HYC, HYL⟩ := hrel
 cases gk with
 | zero => exact absurd HA.out (by simp [vault_book_head.l0])
 | succ k1 => ?_
 have H := HA.out
 clear HA
 simp only [vault_book_head.l0] at H
 by_cases c17 : x23_1 < (yz11.length : Int)
 rotate_left
 ·rw [if_neg c17] at H
  have c17b0 : decide (x23_1 < (yz11.length : Int)) = false := decide_eq_false c17
  clear c17
  obtain ⟨ji22, hji22⟩ : ∃ j_ : Int, (wrap64 (64 - (x3_1.length : Int))) = j_ := ⟨_, rfl⟩
  replace H : (if 0 ≤ (ji22) then (if x3_1.length + (ji22 : Int).toNat < 140737488355328 then (some (strOfNums (x3_1 ++ List.replicate (ji22 : Int).toNat 0))) else (none)) else (none)) = some r := by first | (rw [hji22] at H; exact H) | (simp only [hji22] at H ⊢; exact H)
  have hji22w : (IntKind.i64.wrap (64 - (x3_1.length : Int))) = ji22 := (i64_w _).trans hji22
  by_cases c23 : 0 ≤ (ji22)
  rotate_left
  ·rw [if_neg c23] at H
   exact absurd H (by simp)
  rw [if_pos c23] at H
  have c23b0 := eq_true c23
  have c23b1 : decide (0 ≤ (ji22)) = true := decide_eq_true c23
  clear c23
  by_cases c24 : x3_1.length + (ji22 : Int).toNat < 140737488355328
  rotate_left
  ·rw [if_neg c24] at H
   exact absurd H (by simp)
  rw [if_pos c24] at H
  have LMc24 := Aside0.mk c24
  clear c24
  obtain ⟨yz19, hyz19⟩ : ∃ y_ : List Int, y_ = (x3_1 ++ List.replicate (ji22 : Int).toNat 0) := ⟨_, rfl⟩
  replace H : (some (strOfNums yz19)) = some r := by first | (rw [hyz19]; with_reducible exact H) | (have H2_ := (Option.bind_some _ _).symm.trans H; rw [hyz19]; with_reducible exact H2_) | (have H2_ := (Option.bind_some _ _).symm.trans H; with_reducible exact H2_) | with_reducible exact H | (rw [hyz19]; exact H) | exact H
  have Nyz19 := am hyz19
  clear hyz19
  obtain rfl := Option.some.inj H
  obtain ⟨Ao25, co25, eo25⟩ := Kd.R_slice HO_3.out
  subst eo25
  go_wp2_with (first | (at_builtin; refine Kd.R_append_zeros (Kd.int .u8) (w0 := w) w.heap.size rfl (.tmp 33) (.tmp 36) 49 3 5 (.int .u8 0) 1 rfl Try.underlying49 Try.underlying3 info5 rfl (by decide) (by omega) (.slice Ao25 x3_1.length co25) x3_1 0 (ji22 : Int) (fun _ => True) rfl rfl rfl ?aF ?aO (of_decide_eq_true (by first | (with_reducible assumption) | assumption)) ?aB ?aS ?aL ?_; (case aB => exact (by repeat first | (with_reducible first | exact HB.out | apply ba | apply bn | apply bd | refine bs (by assumption) ?_) | exact HB.out)); (case aF => exact (fun _ _ => trivial)); (case aO => exact (pr HO_3)); (case aS => exact (below_size (by repeat first | (with_reducible first | exact HB.out | apply ba | apply bn | apply bd | refine bs (by assumption) ?_) | exact HB.out))); (case aL => have := LMc24.out; omega); intro vz20 w26 ho hb hg hat; rw [← Nyz19.out] at ho; have n0_ := am (blk_grown (pk BKz1) hg (Kd.R_ne HO_3.out BKz1.out (by decide))); have n1_ := am (hb); have n2_ := am (ho); clear BKz1; clear HB; clear HO_3; have BKz1 := n0_; have HB := n1_; have HOz21 := n2_; clear n0_ n1_ n2_; clear ho hb hg hat; have hcv27 := own_string (P := Try.prog) Try.underlying49 Try.underlying5 Try.underlying9 (Kd.own_of_R HOz21.out)))
  go_ret
  exact ⟨by first | rfl | (simp [errW_none, errW_some] <;> rfl) | (simp only [← hji22]; first | rfl | (simp [errW_none, errW_some] <;> rfl)) | (simp [*, errW_none, errW_some] <;> rfl), by repeat first | (with_reducible first | exact HB.out | apply ba | apply bn | apply bd | refine bs (by assumption) ?_) | exact HB.out⟩
 rw [if_pos c17] at H
 have c17b0 : decide (x23_1 < (yz11.length : Int)) = true := decide_eq_true c17
 clear c17
 by_cases c18 : 0 ≤ x23_1
 rotate_left
 ·rw [if_neg c18] at H
  exact absurd H (by simp)
 rw [if_pos c18] at H
 have c18b0 : decide (0 ≤ x23_1) = true := decide_eq_true c18
 clear c18
 by_cases c19 : x23_1 < (yz11.length : Int)
 rotate_left
 ·rw [if_neg c19] at H
  exact absurd H (by simp)
 rw [if_pos c19] at H
 have c19b0 : decide (x23_1 < (yz11.length : Int)) = true := decide_eq_true c19
 clear c19
 by_cases c20 : x3_1.length < 140737488355328
 rotate_left
 ·rw [if_neg c20] at H
  exact absurd H (by simp)
 rw [if_pos c20] at H
 have LMc20 := Aside0.mk c20
 clear c20
 obtain ⟨yz16, hyz16⟩ : ∃ y_ : List Int, y_ = (x3_1 ++ [Go.bits .xor .u8 (rd yz11 x23_1) 255]) := ⟨_, rfl⟩
 replace H : (vault_book_head.l0 k1 yz16 yz11 (yz11.length : Int) (wrap64 (x23_1 + 1))) = some r := by first | (rw [hyz16]; with_reducible exact H) | (have H2_ := (Option.bind_some _ _).symm.trans H; rw [hyz16]; with_reducible exact H2_) | (have H2_ := (Option.bind_some _ _).symm.trans H; with_reducible exact H2_) | with_reducible exact H | (rw [hyz16]; exact H) | exact H
 have Nyz16 := am hyz16
 clear hyz16
 have H' := am H
 clear H
 have pz15 : 0 ≤ (x23_1 : Int) := of_decide_eq_true (by first | (with_reducible assumption) | assumption)
 have qz15 : x23_1 < (yz11.length : Int) := of_decide_eq_true (by first | (with_reducible assumption) | assumption)
 obtain ⟨adz15, ez15, hxz15_0⟩ := Kd.at_int HYC.out x23_1 pz15 qz15
 cases ez15
 simp only [Addr.add_lit, Nat.zero_add] at hxz15_0
 replace pz15 := eq_true pz15
 replace qz15 := eq_true qz15
 go_wp2_with (first | ((with_reducible refine gate_builtin (b := .append) (xs := #[.tmp 27, .tmp 30]) rfl ?_); at_builtin; refine Go.Proofs.Ytcfinlmocgbnbaa.Sq.Kd.R_append_keep (Kd.int .u8) (w0 := w) w.heap.size rfl (.tmp 27) (.tmp 30) 49 5 (.int .u8 0) 1 rfl Try.underlying49 info5 rfl (by decide) (by omega) u3 x3_1 (Go.bits .xor .u8 (rd yz11 x23_1) 255) [.int .u8 (Go.bits .xor .u8 (rd yz11 x23_1) 255)] (fun _ => True) (fun _ => False) rfl rfl ?aP (fun _ hk => hk.elim) ?aF ?aO ?aB ?aS ?aL ?_; (case aP => exact rfl); (case aB => exact (by repeat first | (with_reducible first | exact HB.out | apply ba | apply bn | apply bd | refine bs (by assumption) ?_) | exact HB.out)); (case aF => exact (fun _ _ => trivial)); (case aO => exact (pr HO_3)); (case aS => exact (below_size (by repeat first | (with_reducible first | exact HB.out | apply ba | apply bn | apply bd | refine bs (by assumption) ?_) | exact HB.out))); (case aL => have := LMc20.out; omega); intro vz17 w21 ho hb hg hat hkp; have n3_ := am (Go.Proofs.Ytcfinlmocgbnbaa.Sq.Kd.C_append_keep HO_3.out hg hkp HYC.out HYL.out); clear HYC hkp; have HYC := n3_; clear n3_; rw [← Nyz16.out] at ho; have n0_ := am (blk_grown (pk BKz1) hg (Kd.R_ne HO_3.out BKz1.out (by decide))); have n1_ := am (hb); have n2_ := am (ho); clear BKz1; clear HB; clear HO_3; have BKz1 := n0_; have HB := n1_; have HOz18 := n2_; clear n0_ n1_ n2_; clear ho hb hg hat))
 go_roundg k1
 case measure => have := HK1.out; omega
 case rel => exact ⟨(yz16), (wrap64 (x23_1 + 1)), (by first | rfl | (simp; done) | (simp [*]; done)), H', ⟨by have := HK1.out; omega⟩, ⟨by (with_reducible repeat first | apply ra | apply rn | apply rd); exact HOz18.out⟩, ⟨by (with_reducible repeat (first | refine blk_drewN ?_ _ | refine bkD ?_ | refine bkA ?_ _)); exact BKz1.out⟩, ⟨by repeat first | (with_reducible first | exact HB.out | apply ba | apply bn | apply bd | refine bs (by assumption) ?_) | exact HB.out⟩, HYC, ⟨by rw [Nyz16.out, List.length_append]; have := HYL.out; omega⟩⟩
end Go.Proofs.Ytcfinlmocgbnbaa.Pr
end
section
namespace Go.Proofs.Ytcfinlmocgbnbaa.Pr
open Go.RowKit Go.Shelf Go.Proofs.Ytcfinlmocgbnbaa.XB Go.Proofs.YtcfinlmocgbnbaaW.PrintWords
attribute [local go_sem] Oper.semAt_some
set_option linter.unusedVariables false
set_option linter.unusedSimpArgs false
def oddB (n : Int) (m : S24) : Bool := if m.f0 then (decide (m.f1 ≠ 0) || decide (m.f2 ≠ ⟨#[]⟩)) else (decide (m.f1 < 0) || decide (m.f1 ≥ n) || decide ((m.f2.size : Int) ≠ 64))
def shortB (s : ByteArray) : Bool := decide ((s.size : Int) ≠ 64)
def syncB (m : S24) : Bool := m.f0
def rightB (su : List ByteArray) (so : List S24) : Bool := decide ((su.length : Int) ≥ 1) && (decide ((su.length : Int) ≤ 400) && (decide ((so.length : Int) ≤ 3000) && (!(su.any shortB) && (!(so.any syncB) && !(so.any (oddB su.length))))))
def lastB (su : List ByteArray) (so : List S24) (b : Int) : ByteArray := match so.reverse.find? (fun m => decide (m.f1 = b)) with
  | some m => m.f2
  | none => rdOf ByteArray.empty su b
def readB (su : List ByteArray) (so : List S24) (b : Int) : ByteArray × Int := if rightB su so = true ∧ 0 ≤ b ∧ b < su.length then (lastB su so b, 0) else (⟨#[]⟩, 1)
def put1 (su : List ByteArray) (m : S24) (n : Int) : List ByteArray := su.set m.f1.toNat (m.f2.extract 0 n.toNat ++ (rdOf ByteArray.empty su m.f1).extract n.toNat (rdOf ByteArray.empty su m.f1).size)
def fall : List ByteArray → List S24 → (Nat → Int) → Nat → List ByteArray
  | su, [], _, _ => su
  | su, m :: so, cut, i => fall (put1 su m (cut i)) so cut (i + 1)
def doL (su0 : List ByteArray) (so0 : List S24) : List ByteArray → List S24 → List S24 → List ByteArray × List S24 × Int
  | su, so, [] => (su, so, 0)
  | su, so, m :: l => if m.f0 = true then doL su0 so0 (fall su so (fun _ => 64) 0) [] l else if (so.length : Int) = 3000 then (su0, so0, 2) else doL su0 so0 su (so ++ [m]) l
def doB (su : List ByteArray) (so : List S24) (l : List S24) : List ByteArray × List S24 × Int := if rightB su so = true ∧ l.any (oddB su.length) = false then doL su so su so l else (su, so, 1)
theorem str_eq (a b : ByteArray) : (a.toList == b.toList) = decide (a = b) := by
  have h : a.toList = b.toList ↔ a = b := by
    rw [ByteArray.toList_eq, ByteArray.toList_eq]
    constructor
    · intro h
      obtain ⟨⟨x⟩⟩ := a
      obtain ⟨⟨y⟩⟩ := b
      simp at h
      rw [h]
    · rintro rfl; rfl
  by_cases h1 : a = b <;> simp [h, h1]
set_option maxRecDepth 100000 in
theorem short_calls (x : ByteArray) (w : World) : Calls Try.prog 45 #[.string x] w fun e w' => e = .returned (.bool (shortB x)) ∧ Below w.heap.size w w' := by
  go_enter Try.func45, Try.ntmps45
  go_wp2
  go_ret
  refine ⟨?_, Below.refl _ _⟩
  by_cases h2 : (x.size : Int) = 64 <;> simp [shortB, h2] <;> omega
set_option maxRecDepth 100000 in
theorem sync_calls (x : S24) (w : World) : Calls Try.prog 44 #[.agg #[.bool x.f0, .int .i64 x.f1, .string x.f2]] w fun e w' => e = .returned (.bool (syncB x)) ∧ Below w.heap.size w w' := by
  go_enter Try.func44, Try.ntmps44
  go_wp2
  go_ret
  exact ⟨rfl, below_alloc (Below.refl _ _) _⟩
set_option maxRecDepth 100000 in
theorem odd_calls (x : S24) (n : Int) (b : Nat) (w0 w : World) (hb : w0.heap[b]? = some (.cells #[.int .i64 n] 3 (0, 0))) (hw : Below w0.heap.size w0 w) :
    Calls Try.prog 73 (#[.agg #[.bool x.f0, .int .i64 x.f1, .string x.f2]] ++ #[.pointer (some ⟨b, 0, none⟩)]) w fun e w' => e = .returned (.bool (oddB n x)) ∧ Below w.heap.size w w' := by
  have hb' := blk_same hb hw
  have c2 := fun (o : Obj) => (blk_cell (bkA hb' o) 0).trans rfl
  obtain ⟨sy, bl, by_⟩ := x
  have hs := str_eq by_ ⟨#[]⟩
  go_enter Try.func73, Try.ntmps73
  cases sy
  · by_cases h0 : bl < 0
    · go_wp2
      go_ret
      exact ⟨by simp [oddB, h0], below_alloc (Below.refl _ _) _⟩
    · by_cases h1 : n ≤ bl
      · go_wp2
        go_ret
        exact ⟨by simp [oddB, h0, h1], below_alloc (Below.refl _ _) _⟩
      · go_wp2
        go_ret
        refine ⟨?_, below_alloc (Below.refl _ _) _⟩
        by_cases h2 : (by_.size : Int) = 64 <;> simp [oddB, h0, h1, h2]
  · by_cases h0 : bl = 0
    · by_cases h1 : by_ = ⟨#[]⟩
      · subst h0 h1
        clear hs
        go_wp2
        go_ret
        exact ⟨by simp [oddB], below_alloc (Below.refl _ _) _⟩
      · have e0 : (bl == 0) = true := by simpa using h0
        have e1 : (bl != 0) = false := by simpa using h0
        have hne : by_.toList ≠ [] := fun e => h1 (by have := hs; simp [e] at this; simpa using this)
        have e2 : by_.toList.isEmpty = false := by simpa using hne
        clear h0 hs
        go_wp2
        go_ret
        exact ⟨by simp [oddB, h1], below_alloc (Below.refl _ _) _⟩
    · have e0 : (bl == 0) = false := by simpa using h0
      have e1 : (bl != 0) = true := by simpa using h0
      go_wp2
      go_ret
      exact ⟨by simp [oddB, h0], below_alloc (Below.refl _ _) _⟩
theorem oddF_calls (n : Int) (w : World) : Calls Try.prog 48 #[.int .i64 n] w fun e w' => e = .returned (.func (.func 73) #[] #[.pointer (some ⟨w.heap.size, 0, none⟩)]) ∧ w' = w.alloc (.cells #[.int .i64 n] 3) := by
  go_enter Try.func48, Try.ntmps48
  go_wp2
  go_ret
  exact ⟨rfl, rfl⟩
def idx {α : Type} (p : α → Bool) (xs : List α) : Int := match xs.findIdx? p with | some i => i | none => -1
theorem idx_none {α : Type} {p : α → Bool} {xs : List α} (h : ∀ j, (hj : j < xs.length) → p xs[j] = false) : idx p xs = -1 := by
  unfold idx
  rw [List.findIdx?_eq_none_iff.2]
  intro x hx
  obtain ⟨j, hj, rfl⟩ := List.getElem_of_mem hx
  exact h j hj
theorem idx_some {α : Type} {p : α → Bool} {xs : List α} {k : Nat} (hk : k < xs.length) (hp : p xs[k] = true) (h : ∀ j, (hj : j < k) → p (xs[j]'(by omega)) = false) : idx p xs = k := by
  unfold idx
  rw [List.findIdx?_eq_some_iff_getElem.2 ⟨hk, hp, fun j hj => by simp [h j hj]⟩]
theorem idx_cases {α : Type} (p : α → Bool) (xs : List α) : (idx p xs = -1 ∧ xs.find? p = none) ∨ ∃ k, ∃ hk : k < xs.length, idx p xs = k ∧ xs.find? p = some xs[k] := by
  unfold idx
  cases h : xs.findIdx? p with
  | none => exact .inl ⟨rfl, by rw [List.find?_eq_none]; rw [List.findIdx?_eq_none_iff] at h; intro x hx; simp [h x hx]⟩
  | some i =>
    obtain ⟨hi, hp, hj⟩ := List.findIdx?_eq_some_iff_getElem.1 h
    exact .inr ⟨i, hi, rfl, by rw [List.find?_eq_some_iff_getElem]; exact ⟨hp, i, hi, rfl, fun j hj' => by simpa using hj j hj'⟩⟩
theorem idx_any {α : Type} (p : α → Bool) (xs : List α) : decide (idx p xs ≥ 0) = xs.any p := by
  rcases idx_cases p xs with ⟨h1, h2⟩ | ⟨k, hk, h1, h2⟩
  · rw [h1]
    rw [List.find?_eq_none] at h2
    have : xs.any p = false := by rw [List.any_eq_false]; exact h2
    rw [this]
    rfl
  · rw [h1]
    have h3 := List.find?_some h2
    have : xs.any p = true := List.any_eq_true.2 ⟨_, List.getElem_mem hk, h3⟩
    rw [this]
    simp
theorem rd24_get {xs : List S24} {k : Nat} (h : k < xs.length) : rd_T24 xs k = xs[k] := by
  unfold rd_T24
  simp [h]
theorem rdS_get {xs : List ByteArray} {k : Nat} (h : k < xs.length) : rdOf ByteArray.empty xs k = xs[k] := by
  unfold rdOf
  simp [h]
set_option maxRecDepth 100000 in
set_option maxHeartbeats 4000000 in
theorem index72_calls (pf : Nat) (lb : Array Value) (p : S24 → Bool) (A : Option Addr) (c : Nat) (xs : List S24) (w : World) (hr : Kd.C k24 w A xs.length xs) (hc : xs.length ≤ c) (hxs : xs.length ≤ 9223372036854775807)
    (epf : ∀ args w, (callFunc pf args).run Try.prog w = .ok (.enter pf args) w)
    (hp : ∀ (x : S24) (W : World), Below w.heap.size w W → Calls Try.prog pf (#[.agg #[.bool x.f0, .int .i64 x.f1, .string x.f2]] ++ lb) W fun e W' => e = .returned (.bool (p x)) ∧ Below W.heap.size W W') :
    Calls Try.prog 72 #[.slice A xs.length c, .func (.func pf) #[] lb] w fun e w' => e = .returned (.int .i64 (idx p xs)) ∧ Below w.heap.size w w' := by
  refine (callsIn_wide (n := 9)).1 (callsIn_of_wp Try.func72 rfl trivial ?_ rfl)
  simp only [Try.ntmps72, List.size_toArray, List.length_cons, List.length_nil, Nat.reduceAdd, Nat.reduceSub, Array.replicate_succ, Array.replicate_zero, List.push_toArray, List.append_toArray, List.nil_append, List.cons_append]
  gi_wp2
  gi_loopw [8] (fun v wr => ∃ k : Nat, k ≤ xs.length ∧ v = .int .i64 k ∧ (∀ j, (hj : j < xs.length) → j < k → p xs[j] = false) ∧ Below w.heap.size w wr)
    (fun v _ => xs.length - (intOf v).toNat)
  case atStart => exact ⟨0, by omega, rfl, fun j _ h => absurd h (by omega), Below.refl _ _⟩
  case round =>
    obtain ⟨k, hk, rfl, hJs, hB⟩ := hrel
    by_cases hlt : k < xs.length
    · obtain ⟨ad, rfl, r0, r1, r2⟩ := at_T24 hr (k : Int) (by omega) (by omega)
      have q0 := (hB.cell (World.block_lt_of_cell? w _ r0)).trans r0
      have q1 := (hB.cell (World.block_lt_of_cell? w _ r1)).trans r1
      have q2 := (hB.cell (World.block_lt_of_cell? w _ r2)).trans r2
      simp only [Int.toNat_natCast] at q0 q1 q2
      clear r0 r1 r2
      gi_wp2_with fail
      refine ⟨trivial, (callsIn_wide.2 (hp (rd_T24 xs (k : Int)) _ hB)).mono ?_⟩
      rintro e W1 ⟨rfl, hb⟩
      have hw : wrap64 ((k : Int) + 1) = (k : Int) + 1 := by unfold wrap64; omega
      have hB1 : Below w.heap.size w W1 := below_step hB hb
      clear hb q0 q1 q2
      cases hpk : p (rd_T24 xs (k : Int))
      · gi_wp2
        go_roundw
        case rel =>
          refine ⟨k + 1, by omega, by simp, fun j hj h => ?_, hB1⟩
          by_cases hjk : j < k
          · exact hJs j hj hjk
          · obtain rfl : j = k := by omega
            rw [← rd24_get hlt]
            exact hpk
        case measure => simp [intOf]; omega
      · have he : idx p xs = k := idx_some hlt (by rw [← rd24_get hlt]; exact hpk) (fun j hj => hJs j (by omega) hj)
        gi_wp2
        go_ret
        exact ⟨by rw [he]; rfl, hB1⟩
    · obtain rfl : k = xs.length := by omega
      have he : idx p xs = -1 := idx_none (fun j hj => hJs j hj hj)
      gi_wp2
      go_ret
      exact ⟨by rw [he]; rfl, hB⟩
theorem contains47_calls (pf : Nat) (lb : Array Value) (p : S24 → Bool) (A : Option Addr) (c : Nat) (xs : List S24) (w : World) (hr : Kd.C k24 w A xs.length xs) (hc : xs.length ≤ c) (hxs : xs.length ≤ 9223372036854775807)
    (epf : ∀ args w, (callFunc pf args).run Try.prog w = .ok (.enter pf args) w)
    (hp : ∀ (x : S24) (W : World), Below w.heap.size w W → Calls Try.prog pf (#[.agg #[.bool x.f0, .int .i64 x.f1, .string x.f2]] ++ lb) W fun e W' => e = .returned (.bool (p x)) ∧ Below W.heap.size W W') :
    Calls Try.prog 47 #[.slice A xs.length c, .func (.func pf) #[] lb] w fun e w' => e = .returned (.bool (xs.any p)) ∧ Below w.heap.size w w' := by
  go_enter Try.func47, Try.ntmps47
  go_wp2_with fail
  refine (index72_calls pf lb p A c xs w hr hc hxs epf hp).mono ?_
  rintro e W1 ⟨rfl, hb⟩
  go_wp2
  go_ret
  exact ⟨by rw [← idx_any]; rfl, hb⟩
set_option maxRecDepth 100000 in
set_option maxHeartbeats 4000000 in
theorem index71_calls (pf : Nat) (lb : Array Value) (p : ByteArray → Bool) (A : Option Addr) (c : Nat) (xs : List ByteArray) (w : World) (hr : Kd.C Kd.string w A xs.length xs) (hc : xs.length ≤ c) (hxs : xs.length ≤ 9223372036854775807)
    (epf : ∀ args w, (callFunc pf args).run Try.prog w = .ok (.enter pf args) w)
    (hp : ∀ (x : ByteArray) (W : World), Below w.heap.size w W → Calls Try.prog pf (#[.string x] ++ lb) W fun e W' => e = .returned (.bool (p x)) ∧ Below W.heap.size W W') :
    Calls Try.prog 71 #[.slice A xs.length c, .func (.func pf) #[] lb] w fun e w' => e = .returned (.int .i64 (idx p xs)) ∧ Below w.heap.size w w' := by
  refine (callsIn_wide (n := 9)).1 (callsIn_of_wp Try.func71 rfl trivial ?_ rfl)
  simp only [Try.ntmps71, List.size_toArray, List.length_cons, List.length_nil, Nat.reduceAdd, Nat.reduceSub, Array.replicate_succ, Array.replicate_zero, List.push_toArray, List.append_toArray, List.nil_append, List.cons_append]
  gi_wp2
  gi_loopw [8] (fun v wr => ∃ k : Nat, k ≤ xs.length ∧ v = .int .i64 k ∧ (∀ j, (hj : j < xs.length) → j < k → p xs[j] = false) ∧ Below w.heap.size w wr)
    (fun v _ => xs.length - (intOf v).toNat)
  case atStart => exact ⟨0, by omega, rfl, fun j _ h => absurd h (by omega), Below.refl _ _⟩
  case round =>
    obtain ⟨k, hk, rfl, hJs, hB⟩ := hrel
    by_cases hlt : k < xs.length
    · obtain ⟨ad, rfl, r0⟩ := Kd.at_string hr (k : Int) (by omega) (by omega)
      have q0 := (hB.cell (World.block_lt_of_cell? w _ r0)).trans r0
      simp only [Int.toNat_natCast] at q0
      clear r0
      gi_wp2_with fail
      refine ⟨trivial, (callsIn_wide.2 (hp (rdOf ByteArray.empty xs (k : Int)) _ hB)).mono ?_⟩
      rintro e W1 ⟨rfl, hb⟩
      have hw : wrap64 ((k : Int) + 1) = (k : Int) + 1 := by unfold wrap64; omega
      have hB1 : Below w.heap.size w W1 := below_step hB hb
      clear hb q0
      cases hpk : p (rdOf ByteArray.empty xs (k : Int))
      · gi_wp2
        go_roundw
        case rel =>
          refine ⟨k + 1, by omega, by simp, fun j hj h => ?_, hB1⟩
          by_cases hjk : j < k
          · exact hJs j hj hjk
          · obtain rfl : j = k := by omega
            rw [← rdS_get hlt]
            exact hpk
        case measure => simp [intOf]; omega
      · have he : idx p xs = k := idx_some hlt (by rw [← rdS_get hlt]; exact hpk) (fun j hj => hJs j (by omega) hj)
        gi_wp2
        go_ret
        exact ⟨by rw [he]; rfl, hB1⟩
    · obtain rfl : k = xs.length := by omega
      have he : idx p xs = -1 := idx_none (fun j hj => hJs j hj hj)
      gi_wp2
      go_ret
      exact ⟨by rw [he]; rfl, hB⟩
theorem contains46_calls (pf : Nat) (lb : Array Value) (p : ByteArray → Bool) (A : Option Addr) (c : Nat) (xs : List ByteArray) (w : World) (hr : Kd.C Kd.string w A xs.length xs) (hc : xs.length ≤ c) (hxs : xs.length ≤ 9223372036854775807)
    (epf : ∀ args w, (callFunc pf args).run Try.prog w = .ok (.enter pf args) w)
    (hp : ∀ (x : ByteArray) (W : World), Below w.heap.size w W → Calls Try.prog pf (#[.string x] ++ lb) W fun e W' => e = .returned (.bool (p x)) ∧ Below W.heap.size W W') :
    Calls Try.prog 46 #[.slice A xs.length c, .func (.func pf) #[] lb] w fun e w' => e = .returned (.bool (xs.any p)) ∧ Below w.heap.size w w' := by
  go_enter Try.func46, Try.ntmps46
  go_wp2_with fail
  refine (index71_calls pf lb p A c xs w hr hc hxs epf hp).mono ?_
  rintro e W1 ⟨rfl, hb⟩
  go_wp2
  go_ret
  exact ⟨by rw [← idx_any]; rfl, hb⟩
end Go.Proofs.Ytcfinlmocgbnbaa.Pr
end
section
namespace Go.Proofs.Ytcfinlmocgbnbaa.Pr
open Go.Proofs.Ytcfinlmocgbnbaa.Sq Go.RowKit Go.Shelf Go.Proofs.Ytcfinlmocgbnbaa.XB Go.Proofs.YtcfinlmocgbnbaaW.PrintWords Go.Proofs.YtcfinlmocgbnbaaW.PrintLast Go.Proofs.YtcfinlmocgbnbaaW.PrintMore
set_option linter.unusedVariables false
set_option linter.unusedSimpArgs false
def disk_Right.T4 : Bool × List (List Nat × List Nat) := (true, [([], []), ([0], [0]), ([1], [1]), ([2], [2]), ([3, 2], [2, 3]), ([2, 4], [2, 4]), ([5, 2], [5]), ([6], [6]), ([7, 6], [6, 7]), ([8, 6], [6, 8]), ([9, 6], [6, 9]), ([6, 10], [6, 10]), ([11, 6], [11]), ([12], [12]), ([13, 12], [12, 13]), ([12], [12]), ([14, 15, 12, 12], [12, 14, 15]), ([16, 12], [12, 16]), ([12, 17], [12, 17]), ([18, 16], [18]), ([19], [19]), ([20, 19], [19, 20]), ([19], [19]), ([21, 22, 19, 19], [19, 21, 22]), ([23, 19], [19, 23]), ([19, 24], [19, 24]), ([25, 23], [25]), ([26], [26]), ([27, 26], [26, 27]), ([26], [26]), ([29, 26, 26], [26, 29]), ([28, 30, 30, 26], [26, 28, 30]), ([31, 26], [26, 31]), ([26, 32], [26, 32]), ([33, 31, 0, 1, 2, 3, 4, 5, 6, 7, 8, 9, 10, 11, 12, 13, 14, 15, 16, 17, 18, 19, 20, 21, 22, 23, 24, 25, 26, 27, 28, 29, 30, 31, 32, 33], [33])])
def disk_Right.B4 : List Nat := [0, 1, 3, 7, 15, 31, 63, 127, 255, 511, 1023, 2047, 4095, 8191, 16383, 8191, 65535, 131071, 262143, 524287, 1048575, 2097151, 1048575, 8388607, 16777215, 33554431, 67108863, 134217727, 268435455, 134217727, 671088639, 2147483647, 4294967295, 8589934591, 17179869183]
theorem disk_Right.tab4 : rtab .any (opsOf Try.f20 4) = disk_Right.T4 := by kernel_rfl
theorem disk_Right.bits4 : waitsOk disk_Right.T4.2 disk_Right.B4 = true := by kernel_rfl
set_option maxHeartbeats 8000000 in
set_option maxRecDepth 100000 in
theorem disk_Right.way0 (A0 : Option Addr) (c0 : Nat) (su : List ByteArray) (A1 : Option Addr) (c1 : Nat) (so : List S24) (w : World) (hr0 : Kd.C Kd.string w A0 su.length su) (hc0 : su.length ≤ c0) (hr1 : Kd.C k24 w A1 so.length so) (hc1 : so.length ≤ c1) (h0 : decide ((su.length : Int) ≥ 1) = false) :
    Calls Try.prog 20 #[.agg #[.slice A0 su.length c0, .slice A1 so.length c1]] w fun e w' => e = .returned (.bool false) ∧ Below w.heap.size w w' := by
  have hu30 := Try.underlying30
  have HR0 := Aside0.mk hr0
  have HR1 := Aside0.mk hr1
  clear hr0 hr1
  go_enter Try.func20, Try.ntmps20
  go_wp2_with fail
  generalize hU : World.alloc w _ = U
  have BK0 := Aside0.mk (show U.heap[w.heap.size]? = some (.cells #[.slice A0 su.length c0, .slice A1 so.length c1] 30 (0, 0)) by rw [← hU]; exact heap_alloc_new w _)
  have HB0 := Aside0.mk (show Below w.heap.size w U by rw [← hU]; exact below_alloc (Below.refl _ _) _)
  clear hU
  have BK := Aside0.mk (XB.bkD BK0.out)
  have HB := Aside0.mk (below_drew1 HB0.out)
  clear BK0 HB0
  refine start_ (n := 35) (S := fun w' => w'.cell? ⟨w.heap.size, 0, none⟩ = some (.slice A0 su.length c0) ∧ w'.cell? ⟨w.heap.size, 1, none⟩ = some (.slice A1 so.length c1)) (ds := []) #[false, false, false, false, false, false, false, false, false, false, false, false, false, false, false, false, false, false, false, false, false, false, false, false, false, false, false, false, false, false, false, false, false, false, false] (by kernel_rfl) rfl rfl ⟨(blk_cell BK.out 0).trans rfl, (blk_cell BK.out 1).trans rfl⟩ (fun hHeld => ?_); refine with_tabW disk_Right.tab4 disk_Right.bits4 (fun HT_ HW_ => ?_)
  generalize U.drew = V at *
  refine pu_ 0 (some 9) HT_ rfl rfl (.inl ⟨by rfl, by intro w'; go_simp; with_reducible rfl⟩) (by simp only [Act.put, sa_, s0_, s1_, i64_w, i32_w]; rfl) ?_
  refine pu_ 1 (some 10) HT_ rfl rfl (.inl ⟨by rfl, by intro w'; go_simp; with_reducible rfl⟩) (by simp only [Act.put, sa_, s0_, s1_, i64_w, i32_w]; rfl) ?_
  refine pu_ 2 (some 11) HT_ rfl rfl (.inl ⟨by rfl, by intro w'; go_simp; with_reducible rfl⟩) (by simp only [Act.put, sa_, s0_, s1_, i64_w, i32_w]; rfl) ?_
  refine pu_ 3 (some 12) HT_ rfl rfl (.inr ⟨by rfl, rfl⟩) (by simp only [Act.put, sa_, s0_, s1_, i64_w, i32_w]; rfl) ?_
  refine pu_ 4 (some 13) HT_ rfl rfl (.inr ⟨by rfl, rfl⟩) (by simp only [Act.put, sa_, s0_, s1_, i64_w, i32_w]; rfl) ?_
  refine pu_ 5 (some 14) HT_ rfl rfl (.inl ⟨by rfl, by intro w'; go_simp; with_reducible rfl⟩) (by simp only [Act.put, sa_, s0_, s1_, i64_w, i32_w]; rfl) ?_
  refine pu_ 6 (some 15) HT_ rfl rfl (.inl ⟨by rfl, by intro w'; go_simp; with_reducible rfl⟩) (by simp only [Act.put, sa_, s0_, s1_, i64_w, i32_w]; rfl) ?_
  refine pu_ 7 (some 16) HT_ rfl rfl (.inr ⟨by rfl, rfl⟩) (by simp only [Act.put, sa_, s0_, s1_, i64_w, i32_w]; rfl) ?_
  refine pu_ 8 (some 17) HT_ rfl rfl (.inr ⟨by rfl, rfl⟩) (by simp only [Act.put, sa_, s0_, s1_, i64_w, i32_w]; rfl) ?_
  refine pu_ 9 (some 18) HT_ rfl rfl (.inr ⟨by rfl, rfl⟩) (by simp only [Act.put, sa_, s0_, s1_, i64_w, i32_w]; rfl) ?_
  refine pu_ 10 (some 19) HT_ rfl rfl (.inr ⟨by rfl, rfl⟩) (by simp only [Act.put, sa_, s0_, s1_, i64_w, i32_w]; rfl) ?_
  refine pu_ 11 (some 20) HT_ rfl rfl (.inl ⟨by rfl, by intro w'; go_simp; with_reducible rfl⟩) (by simp only [Act.put, sa_, s0_, s1_, i64_w, i32_w]; rfl) ?_
  refine pu_ 12 (some 21) HT_ rfl rfl (.inl ⟨by rfl, by intro w'; go_simp; with_reducible rfl⟩) (by simp only [Act.put, sa_, s0_, s1_, i64_w, i32_w]; rfl) ?_
  refine pu_ 13 (some 22) HT_ rfl rfl (.inr ⟨by rfl, rfl⟩) (by simp only [Act.put, sa_, s0_, s1_, i64_w, i32_w]; rfl) ?_
  refine pu_ 14 (some 23) HT_ rfl rfl (.inr ⟨by rfl, rfl⟩) (by simp only [Act.put, sa_, s0_, s1_, i64_w, i32_w]; rfl) ?_
  refine pu_ 15 (some 24) HT_ rfl rfl (.inr ⟨by rfl, rfl⟩) (by simp only [Act.put, sa_, s0_, s1_, i64_w, i32_w]; rfl) ?_
  refine pu_ 16 (some 25) HT_ rfl rfl (.inr ⟨by rfl, rfl⟩) (by simp only [Act.put, sa_, s0_, s1_, i64_w, i32_w]; rfl) ?_
  refine pu_ 17 (some 26) HT_ rfl rfl (.inr ⟨by rfl, rfl⟩) (by simp only [Act.put, sa_, s0_, s1_, i64_w, i32_w]; rfl) ?_
  refine pu_ 18 (some 27) HT_ rfl rfl (.inl ⟨by rfl, by intro w'; go_simp; with_reducible rfl⟩) (by simp only [Act.put, sa_, s0_, s1_, i64_w, i32_w]; rfl) ?_
  refine pu_ 19 (some 28) HT_ rfl rfl (.inl ⟨by rfl, by intro w'; go_simp; with_reducible rfl⟩) (by simp only [Act.put, sa_, s0_, s1_, i64_w, i32_w]; rfl) ?_
  refine pu_ 20 (some 29) HT_ rfl rfl (.inr ⟨by rfl, rfl⟩) (by simp only [Act.put, sa_, s0_, s1_, i64_w, i32_w]; rfl) ?_
  refine pu_ 21 (some 30) HT_ rfl rfl (.inr ⟨by rfl, rfl⟩) (by simp only [Act.put, sa_, s0_, s1_, i64_w, i32_w]; rfl) ?_
  refine pu_ 22 (some 31) HT_ rfl rfl (.inr ⟨by rfl, rfl⟩) (by simp only [Act.put, sa_, s0_, s1_, i64_w, i32_w]; rfl) ?_
  refine pu_ 23 (some 32) HT_ rfl rfl (.inr ⟨by rfl, rfl⟩) (by simp only [Act.put, sa_, s0_, s1_, i64_w, i32_w]; rfl) ?_
  refine pu_ 24 (some 33) HT_ rfl rfl (.inr ⟨by rfl, rfl⟩) (by simp only [Act.put, sa_, s0_, s1_, i64_w, i32_w]; rfl) ?_
  refine pu_ 25 (some 34) HT_ rfl rfl (.inl ⟨by rfl, by intro w'; go_simp; with_reducible rfl⟩) (by simp only [Act.put, sa_, s0_, s1_, i64_w, i32_w]; rfl) ?_
  refine pu_ 26 (some 35) HT_ rfl rfl (.inl ⟨by rfl, by intro w'; go_simp; with_reducible rfl⟩) (by simp only [Act.put, sa_, s0_, s1_, i64_w, i32_w]; rfl) ?_
  refine pu_ 27 (some 36) HT_ rfl rfl (.inr ⟨by rfl, rfl⟩) (by simp only [Act.put, sa_, s0_, s1_, i64_w, i32_w]; rfl) ?_
  refine pu_ 28 (some 37) HT_ rfl rfl (.inr ⟨by rfl, rfl⟩) (by simp only [Act.put, sa_, s0_, s1_, i64_w, i32_w]; rfl) ?_
  refine pu_ 29 (some 38) HT_ rfl rfl (.inr ⟨by rfl, rfl⟩) (by simp only [Act.put, sa_, s0_, s1_, i64_w, i32_w]; rfl) ?_
  refine pu_ 30 (some 39) HT_ rfl rfl (.inr ⟨by rfl, rfl⟩) (by simp only [Act.put, sa_, s0_, s1_, i64_w, i32_w]; rfl) ?_
  refine pu_ 31 (some 40) HT_ rfl rfl (.inr ⟨by rfl, rfl⟩) (by simp only [Act.put, sa_, s0_, s1_, i64_w, i32_w]; rfl) ?_
  refine pu_ 32 (some 41) HT_ rfl rfl (.inr ⟨by rfl, rfl⟩) (by simp only [Act.put, sa_, s0_, s1_, i64_w, i32_w]; rfl) ?_
  refine pu_ 33 (some 42) HT_ rfl rfl (.inl ⟨by rfl, by intro w'; go_simp; with_reducible rfl⟩) (by simp only [Act.put, sa_, s0_, s1_, i64_w, i32_w]; rfl) ?_
  refine pu_ 34 (some 2) HT_ rfl rfl (.inl ⟨by rfl, by intro w'; go_simp; with_reducible rfl⟩) (by simp only [Act.put, sa_, s0_, s1_, i64_w, i32_w]; rfl) ?_
  refine done_ (done_of HT_.out (by kernel_rfl)) ?_
  go_wp2
  go_ret
  exact ⟨rfl, HB.out⟩
set_option maxHeartbeats 8000000 in
set_option maxRecDepth 100000 in
theorem disk_Right.way1 (A0 : Option Addr) (c0 : Nat) (su : List ByteArray) (A1 : Option Addr) (c1 : Nat) (so : List S24) (w : World) (hr0 : Kd.C Kd.string w A0 su.length su) (hc0 : su.length ≤ c0) (hr1 : Kd.C k24 w A1 so.length so) (hc1 : so.length ≤ c1) (h0 : decide ((su.length : Int) ≥ 1) = true) (h1 : decide ((su.length : Int) ≤ 400) = false) :
    Calls Try.prog 20 #[.agg #[.slice A0 su.length c0, .slice A1 so.length c1]] w fun e w' => e = .returned (.bool false) ∧ Below w.heap.size w w' := by
  have hu30 := Try.underlying30
  have HR0 := Aside0.mk hr0
  have HR1 := Aside0.mk hr1
  clear hr0 hr1
  go_enter Try.func20, Try.ntmps20
  go_wp2_with fail
  generalize hU : World.alloc w _ = U
  have BK0 := Aside0.mk (show U.heap[w.heap.size]? = some (.cells #[.slice A0 su.length c0, .slice A1 so.length c1] 30 (0, 0)) by rw [← hU]; exact heap_alloc_new w _)
  have HB0 := Aside0.mk (show Below w.heap.size w U by rw [← hU]; exact below_alloc (Below.refl _ _) _)
  clear hU
  have BK := Aside0.mk (XB.bkD BK0.out)
  have HB := Aside0.mk (below_drew1 HB0.out)
  clear BK0 HB0
  refine start_ (n := 35) (S := fun w' => w'.cell? ⟨w.heap.size, 0, none⟩ = some (.slice A0 su.length c0) ∧ w'.cell? ⟨w.heap.size, 1, none⟩ = some (.slice A1 so.length c1)) (ds := []) #[false, false, false, false, false, false, false, false, false, false, false, false, false, false, false, false, false, false, false, false, false, false, false, false, false, false, false, false, false, false, false, false, false, false, false] (by kernel_rfl) rfl rfl ⟨(blk_cell BK.out 0).trans rfl, (blk_cell BK.out 1).trans rfl⟩ (fun hHeld => ?_); refine with_tabW disk_Right.tab4 disk_Right.bits4 (fun HT_ HW_ => ?_)
  generalize U.drew = V at *
  refine pu_ 0 (some 9) HT_ rfl rfl (.inl ⟨by rfl, by intro w'; go_simp; with_reducible rfl⟩) (by simp only [Act.put, sa_, s0_, s1_, i64_w, i32_w]; rfl) ?_
  refine pu_ 1 (some 10) HT_ rfl rfl (.inl ⟨by rfl, by intro w'; go_simp; with_reducible rfl⟩) (by simp only [Act.put, sa_, s0_, s1_, i64_w, i32_w]; rfl) ?_
  refine pu_ 2 (some 11) HT_ rfl rfl (.inl ⟨by rfl, by intro w'; go_simp; with_reducible rfl⟩) (by simp only [Act.put, sa_, s0_, s1_, i64_w, i32_w]; rfl) ?_
  refine pu_ 3 (some 12) HT_ rfl rfl (.inl ⟨by rfl, by intro w'; go_simp; with_reducible rfl⟩) (by simp only [Act.put, sa_, s0_, s1_, i64_w, i32_w]; rfl) ?_
  refine pu_ 4 (some 13) HT_ rfl rfl (.inl ⟨by rfl, by intro w'; go_simp; with_reducible rfl⟩) (by simp only [Act.put, sa_, s0_, s1_, i64_w, i32_w]; rfl) ?_
  refine pu_ 5 (some 14) HT_ rfl rfl (.inl ⟨by rfl, by intro w'; go_simp; with_reducible rfl⟩) (by simp only [Act.put, sa_, s0_, s1_, i64_w, i32_w]; rfl) ?_
  refine pu_ 6 (some 15) HT_ rfl rfl (.inl ⟨by rfl, by intro w'; go_simp; with_reducible rfl⟩) (by simp only [Act.put, sa_, s0_, s1_, i64_w, i32_w]; rfl) ?_
  refine pu_ 7 (some 16) HT_ rfl rfl (.inr ⟨by rfl, rfl⟩) (by simp only [Act.put, sa_, s0_, s1_, i64_w, i32_w]; rfl) ?_
  refine pu_ 8 (some 17) HT_ rfl rfl (.inr ⟨by rfl, rfl⟩) (by simp only [Act.put, sa_, s0_, s1_, i64_w, i32_w]; rfl) ?_
  refine pu_ 9 (some 18) HT_ rfl rfl (.inr ⟨by rfl, rfl⟩) (by simp only [Act.put, sa_, s0_, s1_, i64_w, i32_w]; rfl) ?_
  refine pu_ 10 (some 19) HT_ rfl rfl (.inr ⟨by rfl, rfl⟩) (by simp only [Act.put, sa_, s0_, s1_, i64_w, i32_w]; rfl) ?_
  refine pu_ 11 (some 20) HT_ rfl rfl (.inl ⟨by rfl, by intro w'; go_simp; with_reducible rfl⟩) (by simp only [Act.put, sa_, s0_, s1_, i64_w, i32_w]; rfl) ?_
  refine pu_ 12 (some 21) HT_ rfl rfl (.inl ⟨by rfl, by intro w'; go_simp; with_reducible rfl⟩) (by simp only [Act.put, sa_, s0_, s1_, i64_w, i32_w]; rfl) ?_
  refine pu_ 13 (some 22) HT_ rfl rfl (.inr ⟨by rfl, rfl⟩) (by simp only [Act.put, sa_, s0_, s1_, i64_w, i32_w]; rfl) ?_
  refine pu_ 14 (some 23) HT_ rfl rfl (.inr ⟨by rfl, rfl⟩) (by simp only [Act.put, sa_, s0_, s1_, i64_w, i32_w]; rfl) ?_
  refine pu_ 15 (some 24) HT_ rfl rfl (.inr ⟨by rfl, rfl⟩) (by simp only [Act.put, sa_, s0_, s1_, i64_w, i32_w]; rfl) ?_
  refine pu_ 16 (some 25) HT_ rfl rfl (.inr ⟨by rfl, rfl⟩) (by simp only [Act.put, sa_, s0_, s1_, i64_w, i32_w]; rfl) ?_
  refine pu_ 17 (some 26) HT_ rfl rfl (.inr ⟨by rfl, rfl⟩) (by simp only [Act.put, sa_, s0_, s1_, i64_w, i32_w]; rfl) ?_
  refine pu_ 18 (some 27) HT_ rfl rfl (.inl ⟨by rfl, by intro w'; go_simp; with_reducible rfl⟩) (by simp only [Act.put, sa_, s0_, s1_, i64_w, i32_w]; rfl) ?_
  refine pu_ 19 (some 28) HT_ rfl rfl (.inl ⟨by rfl, by intro w'; go_simp; with_reducible rfl⟩) (by simp only [Act.put, sa_, s0_, s1_, i64_w, i32_w]; rfl) ?_
  refine pu_ 20 (some 29) HT_ rfl rfl (.inr ⟨by rfl, rfl⟩) (by simp only [Act.put, sa_, s0_, s1_, i64_w, i32_w]; rfl) ?_
  refine pu_ 21 (some 30) HT_ rfl rfl (.inr ⟨by rfl, rfl⟩) (by simp only [Act.put, sa_, s0_, s1_, i64_w, i32_w]; rfl) ?_
  refine pu_ 22 (some 31) HT_ rfl rfl (.inr ⟨by rfl, rfl⟩) (by simp only [Act.put, sa_, s0_, s1_, i64_w, i32_w]; rfl) ?_
  refine pu_ 23 (some 32) HT_ rfl rfl (.inr ⟨by rfl, rfl⟩) (by simp only [Act.put, sa_, s0_, s1_, i64_w, i32_w]; rfl) ?_
  refine pu_ 24 (some 33) HT_ rfl rfl (.inr ⟨by rfl, rfl⟩) (by simp only [Act.put, sa_, s0_, s1_, i64_w, i32_w]; rfl) ?_
  refine pu_ 25 (some 34) HT_ rfl rfl (.inl ⟨by rfl, by intro w'; go_simp; with_reducible rfl⟩) (by simp only [Act.put, sa_, s0_, s1_, i64_w, i32_w]; rfl) ?_
  refine pu_ 26 (some 35) HT_ rfl rfl (.inl ⟨by rfl, by intro w'; go_simp; with_reducible rfl⟩) (by simp only [Act.put, sa_, s0_, s1_, i64_w, i32_w]; rfl) ?_
  refine pu_ 27 (some 36) HT_ rfl rfl (.inr ⟨by rfl, rfl⟩) (by simp only [Act.put, sa_, s0_, s1_, i64_w, i32_w]; rfl) ?_
  refine pu_ 28 (some 37) HT_ rfl rfl (.inr ⟨by rfl, rfl⟩) (by simp only [Act.put, sa_, s0_, s1_, i64_w, i32_w]; rfl) ?_
  refine pu_ 29 (some 38) HT_ rfl rfl (.inr ⟨by rfl, rfl⟩) (by simp only [Act.put, sa_, s0_, s1_, i64_w, i32_w]; rfl) ?_
  refine pu_ 30 (some 39) HT_ rfl rfl (.inr ⟨by rfl, rfl⟩) (by simp only [Act.put, sa_, s0_, s1_, i64_w, i32_w]; rfl) ?_
  refine pu_ 31 (some 40) HT_ rfl rfl (.inr ⟨by rfl, rfl⟩) (by simp only [Act.put, sa_, s0_, s1_, i64_w, i32_w]; rfl) ?_
  refine pu_ 32 (some 41) HT_ rfl rfl (.inr ⟨by rfl, rfl⟩) (by simp only [Act.put, sa_, s0_, s1_, i64_w, i32_w]; rfl) ?_
  refine pu_ 33 (some 42) HT_ rfl rfl (.inl ⟨by rfl, by intro w'; go_simp; with_reducible rfl⟩) (by simp only [Act.put, sa_, s0_, s1_, i64_w, i32_w]; rfl) ?_
  refine pu_ 34 (some 2) HT_ rfl rfl (.inl ⟨by rfl, by intro w'; go_simp; with_reducible rfl⟩) (by simp only [Act.put, sa_, s0_, s1_, i64_w, i32_w]; rfl) ?_
  refine done_ (done_of HT_.out (by kernel_rfl)) ?_
  go_wp2
  go_ret
  exact ⟨rfl, HB.out⟩
set_option maxHeartbeats 8000000 in
set_option maxRecDepth 100000 in
theorem disk_Right.way2 (A0 : Option Addr) (c0 : Nat) (su : List ByteArray) (A1 : Option Addr) (c1 : Nat) (so : List S24) (w : World) (hr0 : Kd.C Kd.string w A0 su.length su) (hc0 : su.length ≤ c0) (hr1 : Kd.C k24 w A1 so.length so) (hc1 : so.length ≤ c1) (h0 : decide ((su.length : Int) ≥ 1) = true) (h1 : decide ((su.length : Int) ≤ 400) = true) (h2 : decide ((so.length : Int) ≤ 3000) = false) :
    Calls Try.prog 20 #[.agg #[.slice A0 su.length c0, .slice A1 so.length c1]] w fun e w' => e = .returned (.bool false) ∧ Below w.heap.size w w' := by
  have hu30 := Try.underlying30
  have HR0 := Aside0.mk hr0
  have HR1 := Aside0.mk hr1
  clear hr0 hr1
  go_enter Try.func20, Try.ntmps20
  go_wp2_with fail
  generalize hU : World.alloc w _ = U
  have BK0 := Aside0.mk (show U.heap[w.heap.size]? = some (.cells #[.slice A0 su.length c0, .slice A1 so.length c1] 30 (0, 0)) by rw [← hU]; exact heap_alloc_new w _)
  have HB0 := Aside0.mk (show Below w.heap.size w U by rw [← hU]; exact below_alloc (Below.refl _ _) _)
  clear hU
  have BK := Aside0.mk (XB.bkD BK0.out)
  have HB := Aside0.mk (below_drew1 HB0.out)
  clear BK0 HB0
  refine start_ (n := 35) (S := fun w' => w'.cell? ⟨w.heap.size, 0, none⟩ = some (.slice A0 su.length c0) ∧ w'.cell? ⟨w.heap.size, 1, none⟩ = some (.slice A1 so.length c1)) (ds := []) #[false, false, false, false, false, false, false, false, false, false, false, false, false, false, false, false, false, false, false, false, false, false, false, false, false, false, false, false, false, false, false, false, false, false, false] (by kernel_rfl) rfl rfl ⟨(blk_cell BK.out 0).trans rfl, (blk_cell BK.out 1).trans rfl⟩ (fun hHeld => ?_); refine with_tabW disk_Right.tab4 disk_Right.bits4 (fun HT_ HW_ => ?_)
  generalize U.drew = V at *
  refine pu_ 0 (some 9) HT_ rfl rfl (.inl ⟨by rfl, by intro w'; go_simp; with_reducible rfl⟩) (by simp only [Act.put, sa_, s0_, s1_, i64_w, i32_w]; rfl) ?_
  refine pu_ 1 (some 10) HT_ rfl rfl (.inl ⟨by rfl, by intro w'; go_simp; with_reducible rfl⟩) (by simp only [Act.put, sa_, s0_, s1_, i64_w, i32_w]; rfl) ?_
  refine pu_ 2 (some 11) HT_ rfl rfl (.inl ⟨by rfl, by intro w'; go_simp; with_reducible rfl⟩) (by simp only [Act.put, sa_, s0_, s1_, i64_w, i32_w]; rfl) ?_
  refine pu_ 3 (some 12) HT_ rfl rfl (.inl ⟨by rfl, by intro w'; go_simp; with_reducible rfl⟩) (by simp only [Act.put, sa_, s0_, s1_, i64_w, i32_w]; rfl) ?_
  refine pu_ 4 (some 13) HT_ rfl rfl (.inl ⟨by rfl, by intro w'; go_simp; with_reducible rfl⟩) (by simp only [Act.put, sa_, s0_, s1_, i64_w, i32_w]; rfl) ?_
  refine pu_ 5 (some 14) HT_ rfl rfl (.inl ⟨by rfl, by intro w'; go_simp; with_reducible rfl⟩) (by simp only [Act.put, sa_, s0_, s1_, i64_w, i32_w]; rfl) ?_
  refine pu_ 6 (some 15) HT_ rfl rfl (.inl ⟨by rfl, by intro w'; go_simp; with_reducible rfl⟩) (by simp only [Act.put, sa_, s0_, s1_, i64_w, i32_w]; rfl) ?_
  refine pu_ 7 (some 16) HT_ rfl rfl (.inl ⟨by rfl, by intro w'; go_simp; with_reducible rfl⟩) (by simp only [Act.put, sa_, s0_, s1_, i64_w, i32_w]; rfl) ?_
  refine tk_ 8 (some 17) HT_ HW_ rfl rfl (.inl ⟨by rfl, by rintro w' ⟨s0, s1⟩; go_simp; with_reducible rfl⟩) hHeld (by simp only [Act.put, sa_, s0_, s1_, i64_w, i32_w]; rfl) ?_
  refine pu_ 9 (some 18) HT_ rfl rfl (.inl ⟨by rfl, by intro w'; go_simp; with_reducible rfl⟩) (by simp only [Act.put, sa_, s0_, s1_, i64_w, i32_w]; rfl) ?_
  refine pu_ 10 (some 19) HT_ rfl rfl (.inl ⟨by rfl, by intro w'; go_simp; with_reducible rfl⟩) (by simp only [Act.put, sa_, s0_, s1_, i64_w, i32_w]; rfl) ?_
  refine pu_ 11 (some 20) HT_ rfl rfl (.inl ⟨by rfl, by intro w'; go_simp; with_reducible rfl⟩) (by simp only [Act.put, sa_, s0_, s1_, i64_w, i32_w]; rfl) ?_
  refine pu_ 12 (some 21) HT_ rfl rfl (.inl ⟨by rfl, by intro w'; go_simp; with_reducible rfl⟩) (by simp only [Act.put, sa_, s0_, s1_, i64_w, i32_w]; rfl) ?_
  refine pu_ 13 (some 22) HT_ rfl rfl (.inr ⟨by rfl, rfl⟩) (by simp only [Act.put, sa_, s0_, s1_, i64_w, i32_w]; rfl) ?_
  refine pu_ 14 (some 23) HT_ rfl rfl (.inr ⟨by rfl, rfl⟩) (by simp only [Act.put, sa_, s0_, s1_, i64_w, i32_w]; rfl) ?_
  refine pu_ 15 (some 24) HT_ rfl rfl (.inr ⟨by rfl, rfl⟩) (by simp only [Act.put, sa_, s0_, s1_, i64_w, i32_w]; rfl) ?_
  refine pu_ 16 (some 25) HT_ rfl rfl (.inr ⟨by rfl, rfl⟩) (by simp only [Act.put, sa_, s0_, s1_, i64_w, i32_w]; rfl) ?_
  refine pu_ 17 (some 26) HT_ rfl rfl (.inr ⟨by rfl, rfl⟩) (by simp only [Act.put, sa_, s0_, s1_, i64_w, i32_w]; rfl) ?_
  refine pu_ 18 (some 27) HT_ rfl rfl (.inl ⟨by rfl, by intro w'; go_simp; with_reducible rfl⟩) (by simp only [Act.put, sa_, s0_, s1_, i64_w, i32_w]; rfl) ?_
  refine pu_ 19 (some 28) HT_ rfl rfl (.inl ⟨by rfl, by intro w'; go_simp; with_reducible rfl⟩) (by simp only [Act.put, sa_, s0_, s1_, i64_w, i32_w]; rfl) ?_
  refine pu_ 20 (some 29) HT_ rfl rfl (.inr ⟨by rfl, rfl⟩) (by simp only [Act.put, sa_, s0_, s1_, i64_w, i32_w]; rfl) ?_
  refine pu_ 21 (some 30) HT_ rfl rfl (.inr ⟨by rfl, rfl⟩) (by simp only [Act.put, sa_, s0_, s1_, i64_w, i32_w]; rfl) ?_
  refine pu_ 22 (some 31) HT_ rfl rfl (.inr ⟨by rfl, rfl⟩) (by simp only [Act.put, sa_, s0_, s1_, i64_w, i32_w]; rfl) ?_
  refine pu_ 23 (some 32) HT_ rfl rfl (.inr ⟨by rfl, rfl⟩) (by simp only [Act.put, sa_, s0_, s1_, i64_w, i32_w]; rfl) ?_
  refine pu_ 24 (some 33) HT_ rfl rfl (.inr ⟨by rfl, rfl⟩) (by simp only [Act.put, sa_, s0_, s1_, i64_w, i32_w]; rfl) ?_
  refine pu_ 25 (some 34) HT_ rfl rfl (.inl ⟨by rfl, by intro w'; go_simp; with_reducible rfl⟩) (by simp only [Act.put, sa_, s0_, s1_, i64_w, i32_w]; rfl) ?_
  refine pu_ 26 (some 35) HT_ rfl rfl (.inl ⟨by rfl, by intro w'; go_simp; with_reducible rfl⟩) (by simp only [Act.put, sa_, s0_, s1_, i64_w, i32_w]; rfl) ?_
  refine pu_ 27 (some 36) HT_ rfl rfl (.inr ⟨by rfl, rfl⟩) (by simp only [Act.put, sa_, s0_, s1_, i64_w, i32_w]; rfl) ?_
  refine pu_ 28 (some 37) HT_ rfl rfl (.inr ⟨by rfl, rfl⟩) (by simp only [Act.put, sa_, s0_, s1_, i64_w, i32_w]; rfl) ?_
  refine pu_ 29 (some 38) HT_ rfl rfl (.inr ⟨by rfl, rfl⟩) (by simp only [Act.put, sa_, s0_, s1_, i64_w, i32_w]; rfl) ?_
  refine pu_ 30 (some 39) HT_ rfl rfl (.inr ⟨by rfl, rfl⟩) (by simp only [Act.put, sa_, s0_, s1_, i64_w, i32_w]; rfl) ?_
  refine pu_ 31 (some 40) HT_ rfl rfl (.inr ⟨by rfl, rfl⟩) (by simp only [Act.put, sa_, s0_, s1_, i64_w, i32_w]; rfl) ?_
  refine pu_ 32 (some 41) HT_ rfl rfl (.inr ⟨by rfl, rfl⟩) (by simp only [Act.put, sa_, s0_, s1_, i64_w, i32_w]; rfl) ?_
  refine pu_ 33 (some 42) HT_ rfl rfl (.inl ⟨by rfl, by intro w'; go_simp; with_reducible rfl⟩) (by simp only [Act.put, sa_, s0_, s1_, i64_w, i32_w]; rfl) ?_
  refine pu_ 34 (some 2) HT_ rfl rfl (.inl ⟨by rfl, by intro w'; go_simp; with_reducible rfl⟩) (by simp only [Act.put, sa_, s0_, s1_, i64_w, i32_w]; rfl) ?_
  refine done_ (done_of HT_.out (by kernel_rfl)) ?_
  go_wp2
  go_ret
  exact ⟨rfl, HB.out⟩
set_option maxHeartbeats 8000000 in
set_option maxRecDepth 100000 in
theorem disk_Right.way3 (A0 : Option Addr) (c0 : Nat) (su : List ByteArray) (A1 : Option Addr) (c1 : Nat) (so : List S24) (w : World) (hr0 : Kd.C Kd.string w A0 su.length su) (hc0 : su.length ≤ c0) (hr1 : Kd.C k24 w A1 so.length so) (hc1 : so.length ≤ c1) (h0 : decide ((su.length : Int) ≥ 1) = true) (h1 : decide ((su.length : Int) ≤ 400) = true) (h2 : decide ((so.length : Int) ≤ 3000) = true) (b4 : su.any shortB = true) :
    Calls Try.prog 20 #[.agg #[.slice A0 su.length c0, .slice A1 so.length c1]] w fun e w' => e = .returned (.bool false) ∧ Below w.heap.size w w' := by
  have hu30 := Try.underlying30
  have HR0 := Aside0.mk hr0
  have HR1 := Aside0.mk hr1
  clear hr0 hr1
  go_enter Try.func20, Try.ntmps20
  go_wp2_with fail
  generalize hU : World.alloc w _ = U
  have BK0 := Aside0.mk (show U.heap[w.heap.size]? = some (.cells #[.slice A0 su.length c0, .slice A1 so.length c1] 30 (0, 0)) by rw [← hU]; exact heap_alloc_new w _)
  have HB0 := Aside0.mk (show Below w.heap.size w U by rw [← hU]; exact below_alloc (Below.refl _ _) _)
  clear hU
  have BK := Aside0.mk (XB.bkD BK0.out)
  have HB := Aside0.mk (below_drew1 HB0.out)
  clear BK0 HB0
  refine start_ (n := 35) (S := fun w' => w'.cell? ⟨w.heap.size, 0, none⟩ = some (.slice A0 su.length c0) ∧ w'.cell? ⟨w.heap.size, 1, none⟩ = some (.slice A1 so.length c1)) (ds := []) #[false, false, false, false, false, false, false, false, false, false, false, false, false, false, false, false, false, false, false, false, false, false, false, false, false, false, false, false, false, false, false, false, false, false, false] (by kernel_rfl) rfl rfl ⟨(blk_cell BK.out 0).trans rfl, (blk_cell BK.out 1).trans rfl⟩ (fun hHeld => ?_); refine with_tabW disk_Right.tab4 disk_Right.bits4 (fun HT_ HW_ => ?_)
  generalize U.drew = V at *
  refine pu_ 0 (some 9) HT_ rfl rfl (.inl ⟨by rfl, by intro w'; go_simp; with_reducible rfl⟩) (by simp only [Act.put, sa_, s0_, s1_, i64_w, i32_w]; rfl) ?_
  refine pu_ 1 (some 10) HT_ rfl rfl (.inl ⟨by rfl, by intro w'; go_simp; with_reducible rfl⟩) (by simp only [Act.put, sa_, s0_, s1_, i64_w, i32_w]; rfl) ?_
  refine pu_ 2 (some 11) HT_ rfl rfl (.inl ⟨by rfl, by intro w'; go_simp; with_reducible rfl⟩) (by simp only [Act.put, sa_, s0_, s1_, i64_w, i32_w]; rfl) ?_
  refine pu_ 3 (some 12) HT_ rfl rfl (.inl ⟨by rfl, by intro w'; go_simp; with_reducible rfl⟩) (by simp only [Act.put, sa_, s0_, s1_, i64_w, i32_w]; rfl) ?_
  refine pu_ 4 (some 13) HT_ rfl rfl (.inl ⟨by rfl, by intro w'; go_simp; with_reducible rfl⟩) (by simp only [Act.put, sa_, s0_, s1_, i64_w, i32_w]; rfl) ?_
  refine pu_ 5 (some 14) HT_ rfl rfl (.inl ⟨by rfl, by intro w'; go_simp; with_reducible rfl⟩) (by simp only [Act.put, sa_, s0_, s1_, i64_w, i32_w]; rfl) ?_
  refine pu_ 6 (some 15) HT_ rfl rfl (.inl ⟨by rfl, by intro w'; go_simp; with_reducible rfl⟩) (by simp only [Act.put, sa_, s0_, s1_, i64_w, i32_w]; rfl) ?_
  refine pu_ 7 (some 16) HT_ rfl rfl (.inl ⟨by rfl, by intro w'; go_simp; with_reducible rfl⟩) (by simp only [Act.put, sa_, s0_, s1_, i64_w, i32_w]; rfl) ?_
  refine tk_ 8 (some 17) HT_ HW_ rfl rfl (.inl ⟨by rfl, by rintro w' ⟨s0, s1⟩; go_simp; with_reducible rfl⟩) hHeld (by simp only [Act.put, sa_, s0_, s1_, i64_w, i32_w]; rfl) ?_
  refine pu_ 9 (some 18) HT_ rfl rfl (.inl ⟨by rfl, by intro w'; go_simp; with_reducible rfl⟩) (by simp only [Act.put, sa_, s0_, s1_, i64_w, i32_w]; rfl) ?_
  refine pu_ 10 (some 19) HT_ rfl rfl (.inl ⟨by rfl, by intro w'; go_simp; with_reducible rfl⟩) (by simp only [Act.put, sa_, s0_, s1_, i64_w, i32_w]; rfl) ?_
  refine pu_ 11 (some 20) HT_ rfl rfl (.inl ⟨by rfl, by intro w'; go_simp; with_reducible rfl⟩) (by simp only [Act.put, sa_, s0_, s1_, i64_w, i32_w]; rfl) ?_
  refine pu_ 12 (some 21) HT_ rfl rfl (.inl ⟨by rfl, by intro w'; go_simp; with_reducible rfl⟩) (by simp only [Act.put, sa_, s0_, s1_, i64_w, i32_w]; rfl) ?_
  refine pu_ 13 (some 22) HT_ rfl rfl (.inl ⟨by rfl, by intro w'; go_simp; with_reducible rfl⟩) (by simp only [Act.put, sa_, s0_, s1_, i64_w, i32_w]; rfl) ?_
  refine tk_ 14 (some 23) HT_ HW_ rfl rfl (.inl ⟨by rfl, by rintro w' ⟨s0, s1⟩; go_simp; with_reducible rfl⟩) hHeld (by simp only [Act.put, sa_, s0_, s1_, i64_w, i32_w]; rfl) ?_
  refine pu_ 15 (some 24) HT_ rfl rfl (.inl ⟨by rfl, by intro w'; go_simp; with_reducible rfl⟩) (by simp only [Act.put, sa_, s0_, s1_, i64_w, i32_w]; rfl) ?_
  refine on_ 16 (some 25) HT_ rfl rfl (fun K hK => ?_)
  refine goes_ Try.func46 (by kernel_rfl) rfl #[.slice A0 su.length c0, .func (.func 45) #[] #[]] (by rfl) rfl rfl (by (try simp only [List.map_toArray, List.map_cons, List.map_nil]) <;> rfl) ?_
  refine (contains46_calls 45 #[] shortB A0 c0 su _ (Kd.C_below HR0.out HB.out) hc0 (Kd.C_max HR0.out) (fun _ _ => rfl) (fun x W _ => by simpa using short_calls x W)).mono ?_
  rintro e W2 ⟨rfl, hb⟩
  refine ⟨_, rfl, ?_⟩
  have n0_ := Aside0.mk (below_step HB.out hb); have n1_ := Aside0.mk (blk_same BK.out hb); clear HB BK; have HB := n0_; have BK := n1_; clear n0_ n1_ hb
  refine hK.out _ _ ⟨(blk_cell BK.out 0).trans rfl, (blk_cell BK.out 1).trans rfl⟩ (fun hHeld => ?_)
  clear hK K
  refine norm_ (by show Act.put _ (some 25) _ = _; simp only [Act.put, sa_, s0_, s1_, i64_w, i32_w]; rfl) ?_
  (try rw [b4])
  refine pu_ 17 (some 26) HT_ rfl rfl (.inl ⟨by rfl, by intro w'; go_simp; with_reducible rfl⟩) (by simp only [Act.put, sa_, s0_, s1_, i64_w, i32_w]; rfl) ?_
  refine pu_ 18 (some 27) HT_ rfl rfl (.inl ⟨by rfl, by intro w'; go_simp; with_reducible rfl⟩) (by simp only [Act.put, sa_, s0_, s1_, i64_w, i32_w]; rfl) ?_
  refine pu_ 19 (some 28) HT_ rfl rfl (.inl ⟨by rfl, by intro w'; go_simp; with_reducible rfl⟩) (by simp only [Act.put, sa_, s0_, s1_, i64_w, i32_w]; rfl) ?_
  refine pu_ 20 (some 29) HT_ rfl rfl (.inr ⟨by rfl, rfl⟩) (by simp only [Act.put, sa_, s0_, s1_, i64_w, i32_w]; rfl) ?_
  refine pu_ 21 (some 30) HT_ rfl rfl (.inr ⟨by rfl, rfl⟩) (by simp only [Act.put, sa_, s0_, s1_, i64_w, i32_w]; rfl) ?_
  refine pu_ 22 (some 31) HT_ rfl rfl (.inr ⟨by rfl, rfl⟩) (by simp only [Act.put, sa_, s0_, s1_, i64_w, i32_w]; rfl) ?_
  refine pu_ 23 (some 32) HT_ rfl rfl (.inr ⟨by rfl, rfl⟩) (by simp only [Act.put, sa_, s0_, s1_, i64_w, i32_w]; rfl) ?_
  refine pu_ 24 (some 33) HT_ rfl rfl (.inr ⟨by rfl, rfl⟩) (by simp only [Act.put, sa_, s0_, s1_, i64_w, i32_w]; rfl) ?_
  refine pu_ 25 (some 34) HT_ rfl rfl (.inl ⟨by rfl, by intro w'; go_simp; with_reducible rfl⟩) (by simp only [Act.put, sa_, s0_, s1_, i64_w, i32_w]; rfl) ?_
  refine pu_ 26 (some 35) HT_ rfl rfl (.inl ⟨by rfl, by intro w'; go_simp; with_reducible rfl⟩) (by simp only [Act.put, sa_, s0_, s1_, i64_w, i32_w]; rfl) ?_
  refine pu_ 27 (some 36) HT_ rfl rfl (.inr ⟨by rfl, rfl⟩) (by simp only [Act.put, sa_, s0_, s1_, i64_w, i32_w]; rfl) ?_
  refine pu_ 28 (some 37) HT_ rfl rfl (.inr ⟨by rfl, rfl⟩) (by simp only [Act.put, sa_, s0_, s1_, i64_w, i32_w]; rfl) ?_
  refine pu_ 29 (some 38) HT_ rfl rfl (.inr ⟨by rfl, rfl⟩) (by simp only [Act.put, sa_, s0_, s1_, i64_w, i32_w]; rfl) ?_
  refine pu_ 30 (some 39) HT_ rfl rfl (.inr ⟨by rfl, rfl⟩) (by simp only [Act.put, sa_, s0_, s1_, i64_w, i32_w]; rfl) ?_
  refine pu_ 31 (some 40) HT_ rfl rfl (.inr ⟨by rfl, rfl⟩) (by simp only [Act.put, sa_, s0_, s1_, i64_w, i32_w]; rfl) ?_
  refine pu_ 32 (some 41) HT_ rfl rfl (.inr ⟨by rfl, rfl⟩) (by simp only [Act.put, sa_, s0_, s1_, i64_w, i32_w]; rfl) ?_
  refine pu_ 33 (some 42) HT_ rfl rfl (.inl ⟨by rfl, by intro w'; go_simp; with_reducible rfl⟩) (by simp only [Act.put, sa_, s0_, s1_, i64_w, i32_w]; rfl) ?_
  refine pu_ 34 (some 2) HT_ rfl rfl (.inl ⟨by rfl, by intro w'; go_simp; with_reducible rfl⟩) (by simp only [Act.put, sa_, s0_, s1_, i64_w, i32_w]; rfl) ?_
  refine done_ (done_of HT_.out (by kernel_rfl)) ?_
  go_wp2
  go_ret
  exact ⟨rfl, HB.out⟩
set_option maxHeartbeats 8000000 in
set_option maxRecDepth 100000 in
theorem disk_Right.way4 (A0 : Option Addr) (c0 : Nat) (su : List ByteArray) (A1 : Option Addr) (c1 : Nat) (so : List S24) (w : World) (hr0 : Kd.C Kd.string w A0 su.length su) (hc0 : su.length ≤ c0) (hr1 : Kd.C k24 w A1 so.length so) (hc1 : so.length ≤ c1) (h0 : decide ((su.length : Int) ≥ 1) = true) (h1 : decide ((su.length : Int) ≤ 400) = true) (h2 : decide ((so.length : Int) ≤ 3000) = true) (b4 : su.any shortB = false) (b5 : so.any syncB = true) :
    Calls Try.prog 20 #[.agg #[.slice A0 su.length c0, .slice A1 so.length c1]] w fun e w' => e = .returned (.bool false) ∧ Below w.heap.size w w' := by
  have hu30 := Try.underlying30
  have HR0 := Aside0.mk hr0
  have HR1 := Aside0.mk hr1
  clear hr0 hr1
  go_enter Try.func20, Try.ntmps20
  go_wp2_with fail
  generalize hU : World.alloc w _ = U
  have BK0 := Aside0.mk (show U.heap[w.heap.size]? = some (.cells #[.slice A0 su.length c0, .slice A1 so.length c1] 30 (0, 0)) by rw [← hU]; exact heap_alloc_new w _)
  have HB0 := Aside0.mk (show Below w.heap.size w U by rw [← hU]; exact below_alloc (Below.refl _ _) _)
  clear hU
  have BK := Aside0.mk (XB.bkD BK0.out)
  have HB := Aside0.mk (below_drew1 HB0.out)
  clear BK0 HB0
  refine start_ (n := 35) (S := fun w' => w'.cell? ⟨w.heap.size, 0, none⟩ = some (.slice A0 su.length c0) ∧ w'.cell? ⟨w.heap.size, 1, none⟩ = some (.slice A1 so.length c1)) (ds := []) #[false, false, false, false, false, false, false, false, false, false, false, false, false, false, false, false, false, false, false, false, false, false, false, false, false, false, false, false, false, false, false, false, false, false, false] (by kernel_rfl) rfl rfl ⟨(blk_cell BK.out 0).trans rfl, (blk_cell BK.out 1).trans rfl⟩ (fun hHeld => ?_); refine with_tabW disk_Right.tab4 disk_Right.bits4 (fun HT_ HW_ => ?_)
  generalize U.drew = V at *
  refine pu_ 0 (some 9) HT_ rfl rfl (.inl ⟨by rfl, by intro w'; go_simp; with_reducible rfl⟩) (by simp only [Act.put, sa_, s0_, s1_, i64_w, i32_w]; rfl) ?_
  refine pu_ 1 (some 10) HT_ rfl rfl (.inl ⟨by rfl, by intro w'; go_simp; with_reducible rfl⟩) (by simp only [Act.put, sa_, s0_, s1_, i64_w, i32_w]; rfl) ?_
  refine pu_ 2 (some 11) HT_ rfl rfl (.inl ⟨by rfl, by intro w'; go_simp; with_reducible rfl⟩) (by simp only [Act.put, sa_, s0_, s1_, i64_w, i32_w]; rfl) ?_
  refine pu_ 3 (some 12) HT_ rfl rfl (.inl ⟨by rfl, by intro w'; go_simp; with_reducible rfl⟩) (by simp only [Act.put, sa_, s0_, s1_, i64_w, i32_w]; rfl) ?_
  refine pu_ 4 (some 13) HT_ rfl rfl (.inl ⟨by rfl, by intro w'; go_simp; with_reducible rfl⟩) (by simp only [Act.put, sa_, s0_, s1_, i64_w, i32_w]; rfl) ?_
  refine pu_ 5 (some 14) HT_ rfl rfl (.inl ⟨by rfl, by intro w'; go_simp; with_reducible rfl⟩) (by simp only [Act.put, sa_, s0_, s1_, i64_w, i32_w]; rfl) ?_
  refine pu_ 6 (some 15) HT_ rfl rfl (.inl ⟨by rfl, by intro w'; go_simp; with_reducible rfl⟩) (by simp only [Act.put, sa_, s0_, s1_, i64_w, i32_w]; rfl) ?_
  refine pu_ 7 (some 16) HT_ rfl rfl (.inl ⟨by rfl, by intro w'; go_simp; with_reducible rfl⟩) (by simp only [Act.put, sa_, s0_, s1_, i64_w, i32_w]; rfl) ?_
  refine tk_ 8 (some 17) HT_ HW_ rfl rfl (.inl ⟨by rfl, by rintro w' ⟨s0, s1⟩; go_simp; with_reducible rfl⟩) hHeld (by simp only [Act.put, sa_, s0_, s1_, i64_w, i32_w]; rfl) ?_
  refine pu_ 9 (some 18) HT_ rfl rfl (.inl ⟨by rfl, by intro w'; go_simp; with_reducible rfl⟩) (by simp only [Act.put, sa_, s0_, s1_, i64_w, i32_w]; rfl) ?_
  refine pu_ 10 (some 19) HT_ rfl rfl (.inl ⟨by rfl, by intro w'; go_simp; with_reducible rfl⟩) (by simp only [Act.put, sa_, s0_, s1_, i64_w, i32_w]; rfl) ?_
  refine pu_ 11 (some 20) HT_ rfl rfl (.inl ⟨by rfl, by intro w'; go_simp; with_reducible rfl⟩) (by simp only [Act.put, sa_, s0_, s1_, i64_w, i32_w]; rfl) ?_
  refine pu_ 12 (some 21) HT_ rfl rfl (.inl ⟨by rfl, by intro w'; go_simp; with_reducible rfl⟩) (by simp only [Act.put, sa_, s0_, s1_, i64_w, i32_w]; rfl) ?_
  refine pu_ 13 (some 22) HT_ rfl rfl (.inl ⟨by rfl, by intro w'; go_simp; with_reducible rfl⟩) (by simp only [Act.put, sa_, s0_, s1_, i64_w, i32_w]; rfl) ?_
  refine tk_ 14 (some 23) HT_ HW_ rfl rfl (.inl ⟨by rfl, by rintro w' ⟨s0, s1⟩; go_simp; with_reducible rfl⟩) hHeld (by simp only [Act.put, sa_, s0_, s1_, i64_w, i32_w]; rfl) ?_
  refine pu_ 15 (some 24) HT_ rfl rfl (.inl ⟨by rfl, by intro w'; go_simp; with_reducible rfl⟩) (by simp only [Act.put, sa_, s0_, s1_, i64_w, i32_w]; rfl) ?_
  refine on_ 16 (some 25) HT_ rfl rfl (fun K hK => ?_)
  refine goes_ Try.func46 (by kernel_rfl) rfl #[.slice A0 su.length c0, .func (.func 45) #[] #[]] (by rfl) rfl rfl (by (try simp only [List.map_toArray, List.map_cons, List.map_nil]) <;> rfl) ?_
  refine (contains46_calls 45 #[] shortB A0 c0 su _ (Kd.C_below HR0.out HB.out) hc0 (Kd.C_max HR0.out) (fun _ _ => rfl) (fun x W _ => by simpa using short_calls x W)).mono ?_
  rintro e W2 ⟨rfl, hb⟩
  refine ⟨_, rfl, ?_⟩
  have n0_ := Aside0.mk (below_step HB.out hb); have n1_ := Aside0.mk (blk_same BK.out hb); clear HB BK; have HB := n0_; have BK := n1_; clear n0_ n1_ hb
  refine hK.out _ _ ⟨(blk_cell BK.out 0).trans rfl, (blk_cell BK.out 1).trans rfl⟩ (fun hHeld => ?_)
  clear hK K
  refine norm_ (by show Act.put _ (some 25) _ = _; simp only [Act.put, sa_, s0_, s1_, i64_w, i32_w]; rfl) ?_
  (try rw [b4])
  refine pu_ 17 (some 26) HT_ rfl rfl (.inl ⟨by rfl, by intro w'; go_simp; with_reducible rfl⟩) (by simp only [Act.put, sa_, s0_, s1_, i64_w, i32_w]; rfl) ?_
  refine pu_ 18 (some 27) HT_ rfl rfl (.inl ⟨by rfl, by intro w'; go_simp; with_reducible rfl⟩) (by simp only [Act.put, sa_, s0_, s1_, i64_w, i32_w]; rfl) ?_
  refine pu_ 19 (some 28) HT_ rfl rfl (.inl ⟨by rfl, by intro w'; go_simp; with_reducible rfl⟩) (by simp only [Act.put, sa_, s0_, s1_, i64_w, i32_w]; rfl) ?_
  refine pu_ 20 (some 29) HT_ rfl rfl (.inl ⟨by rfl, by intro w'; go_simp; with_reducible rfl⟩) (by simp only [Act.put, sa_, s0_, s1_, i64_w, i32_w]; rfl) ?_
  refine tk_ 21 (some 30) HT_ HW_ rfl rfl (.inl ⟨by rfl, by rintro w' ⟨s0, s1⟩; go_simp; with_reducible rfl⟩) hHeld (by simp only [Act.put, sa_, s0_, s1_, i64_w, i32_w]; rfl) ?_
  refine pu_ 22 (some 31) HT_ rfl rfl (.inl ⟨by rfl, by intro w'; go_simp; with_reducible rfl⟩) (by simp only [Act.put, sa_, s0_, s1_, i64_w, i32_w]; rfl) ?_
  refine on_ 23 (some 32) HT_ rfl rfl (fun K hK => ?_)
  refine goes_ Try.func47 (by kernel_rfl) rfl #[.slice A1 so.length c1, .func (.func 44) #[] #[]] (by rfl) rfl rfl (by (try simp only [List.map_toArray, List.map_cons, List.map_nil]) <;> rfl) ?_
  refine (contains47_calls 44 #[] syncB A1 c1 so _ (Kd.C_below HR1.out HB.out) hc1 (Kd.C_max HR1.out) (fun _ _ => rfl) (fun x W _ => by simpa using sync_calls x W)).mono ?_
  rintro e W2 ⟨rfl, hb⟩
  refine ⟨_, rfl, ?_⟩
  have n0_ := Aside0.mk (below_step HB.out hb); have n1_ := Aside0.mk (blk_same BK.out hb); clear HB BK; have HB := n0_; have BK := n1_; clear n0_ n1_ hb
  refine hK.out _ _ ⟨(blk_cell BK.out 0).trans rfl, (blk_cell BK.out 1).trans rfl⟩ (fun hHeld => ?_)
  clear hK K
  refine norm_ (by show Act.put _ (some 32) _ = _; simp only [Act.put, sa_, s0_, s1_, i64_w, i32_w]; rfl) ?_
  (try rw [b5])
  refine pu_ 24 (some 33) HT_ rfl rfl (.inl ⟨by rfl, by intro w'; go_simp; with_reducible rfl⟩) (by simp only [Act.put, sa_, s0_, s1_, i64_w, i32_w]; rfl) ?_
  refine pu_ 25 (some 34) HT_ rfl rfl (.inl ⟨by rfl, by intro w'; go_simp; with_reducible rfl⟩) (by simp only [Act.put, sa_, s0_, s1_, i64_w, i32_w]; rfl) ?_
  refine pu_ 26 (some 35) HT_ rfl rfl (.inl ⟨by rfl, by intro w'; go_simp; with_reducible rfl⟩) (by simp only [Act.put, sa_, s0_, s1_, i64_w, i32_w]; rfl) ?_
  refine pu_ 27 (some 36) HT_ rfl rfl (.inr ⟨by rfl, rfl⟩) (by simp only [Act.put, sa_, s0_, s1_, i64_w, i32_w]; rfl) ?_
  refine pu_ 28 (some 37) HT_ rfl rfl (.inr ⟨by rfl, rfl⟩) (by simp only [Act.put, sa_, s0_, s1_, i64_w, i32_w]; rfl) ?_
  refine pu_ 29 (some 38) HT_ rfl rfl (.inr ⟨by rfl, rfl⟩) (by simp only [Act.put, sa_, s0_, s1_, i64_w, i32_w]; rfl) ?_
  refine pu_ 30 (some 39) HT_ rfl rfl (.inr ⟨by rfl, rfl⟩) (by simp only [Act.put, sa_, s0_, s1_, i64_w, i32_w]; rfl) ?_
  refine pu_ 31 (some 40) HT_ rfl rfl (.inr ⟨by rfl, rfl⟩) (by simp only [Act.put, sa_, s0_, s1_, i64_w, i32_w]; rfl) ?_
  refine pu_ 32 (some 41) HT_ rfl rfl (.inr ⟨by rfl, rfl⟩) (by simp only [Act.put, sa_, s0_, s1_, i64_w, i32_w]; rfl) ?_
  refine pu_ 33 (some 42) HT_ rfl rfl (.inl ⟨by rfl, by intro w'; go_simp; with_reducible rfl⟩) (by simp only [Act.put, sa_, s0_, s1_, i64_w, i32_w]; rfl) ?_
  refine pu_ 34 (some 2) HT_ rfl rfl (.inl ⟨by rfl, by intro w'; go_simp; with_reducible rfl⟩) (by simp only [Act.put, sa_, s0_, s1_, i64_w, i32_w]; rfl) ?_
  refine done_ (done_of HT_.out (by kernel_rfl)) ?_
  go_wp2
  go_ret
  exact ⟨rfl, HB.out⟩
set_option maxHeartbeats 8000000 in
set_option maxRecDepth 100000 in
theorem disk_Right.way5 (A0 : Option Addr) (c0 : Nat) (su : List ByteArray) (A1 : Option Addr) (c1 : Nat) (so : List S24) (w : World) (hr0 : Kd.C Kd.string w A0 su.length su) (hc0 : su.length ≤ c0) (hr1 : Kd.C k24 w A1 so.length so) (hc1 : so.length ≤ c1) (h0 : decide ((su.length : Int) ≥ 1) = true) (h1 : decide ((su.length : Int) ≤ 400) = true) (h2 : decide ((so.length : Int) ≤ 3000) = true) (b4 : su.any shortB = false) (b5 : so.any syncB = false) :
    Calls Try.prog 20 #[.agg #[.slice A0 su.length c0, .slice A1 so.length c1]] w fun e w' => e = .returned (.bool (!(so.any (oddB su.length)))) ∧ Below w.heap.size w w' := by
  have hu30 := Try.underlying30
  have HR0 := Aside0.mk hr0
  have HR1 := Aside0.mk hr1
  clear hr0 hr1
  go_enter Try.func20, Try.ntmps20
  go_wp2_with fail
  generalize hU : World.alloc w _ = U
  have BK0 := Aside0.mk (show U.heap[w.heap.size]? = some (.cells #[.slice A0 su.length c0, .slice A1 so.length c1] 30 (0, 0)) by rw [← hU]; exact heap_alloc_new w _)
  have HB0 := Aside0.mk (show Below w.heap.size w U by rw [← hU]; exact below_alloc (Below.refl _ _) _)
  clear hU
  have BK := Aside0.mk (XB.bkD BK0.out)
  have HB := Aside0.mk (below_drew1 HB0.out)
  clear BK0 HB0
  refine start_ (n := 35) (S := fun w' => w'.cell? ⟨w.heap.size, 0, none⟩ = some (.slice A0 su.length c0) ∧ w'.cell? ⟨w.heap.size, 1, none⟩ = some (.slice A1 so.length c1)) (ds := []) #[false, false, false, false, false, false, false, false, false, false, false, false, false, false, false, false, false, false, false, false, false, false, false, false, false, false, false, false, false, false, false, false, false, false, false] (by kernel_rfl) rfl rfl ⟨(blk_cell BK.out 0).trans rfl, (blk_cell BK.out 1).trans rfl⟩ (fun hHeld => ?_); refine with_tabW disk_Right.tab4 disk_Right.bits4 (fun HT_ HW_ => ?_)
  generalize U.drew = V at *
  refine pu_ 0 (some 9) HT_ rfl rfl (.inl ⟨by rfl, by intro w'; go_simp; with_reducible rfl⟩) (by simp only [Act.put, sa_, s0_, s1_, i64_w, i32_w]; rfl) ?_
  refine pu_ 1 (some 10) HT_ rfl rfl (.inl ⟨by rfl, by intro w'; go_simp; with_reducible rfl⟩) (by simp only [Act.put, sa_, s0_, s1_, i64_w, i32_w]; rfl) ?_
  refine pu_ 2 (some 11) HT_ rfl rfl (.inl ⟨by rfl, by intro w'; go_simp; with_reducible rfl⟩) (by simp only [Act.put, sa_, s0_, s1_, i64_w, i32_w]; rfl) ?_
  refine pu_ 3 (some 12) HT_ rfl rfl (.inl ⟨by rfl, by intro w'; go_simp; with_reducible rfl⟩) (by simp only [Act.put, sa_, s0_, s1_, i64_w, i32_w]; rfl) ?_
  refine pu_ 4 (some 13) HT_ rfl rfl (.inl ⟨by rfl, by intro w'; go_simp; with_reducible rfl⟩) (by simp only [Act.put, sa_, s0_, s1_, i64_w, i32_w]; rfl) ?_
  refine pu_ 5 (some 14) HT_ rfl rfl (.inl ⟨by rfl, by intro w'; go_simp; with_reducible rfl⟩) (by simp only [Act.put, sa_, s0_, s1_, i64_w, i32_w]; rfl) ?_
  refine pu_ 6 (some 15) HT_ rfl rfl (.inl ⟨by rfl, by intro w'; go_simp; with_reducible rfl⟩) (by simp only [Act.put, sa_, s0_, s1_, i64_w, i32_w]; rfl) ?_
  refine pu_ 7 (some 16) HT_ rfl rfl (.inl ⟨by rfl, by intro w'; go_simp; with_reducible rfl⟩) (by simp only [Act.put, sa_, s0_, s1_, i64_w, i32_w]; rfl) ?_
  refine tk_ 8 (some 17) HT_ HW_ rfl rfl (.inl ⟨by rfl, by rintro w' ⟨s0, s1⟩; go_simp; with_reducible rfl⟩) hHeld (by simp only [Act.put, sa_, s0_, s1_, i64_w, i32_w]; rfl) ?_
  refine pu_ 9 (some 18) HT_ rfl rfl (.inl ⟨by rfl, by intro w'; go_simp; with_reducible rfl⟩) (by simp only [Act.put, sa_, s0_, s1_, i64_w, i32_w]; rfl) ?_
  refine pu_ 10 (some 19) HT_ rfl rfl (.inl ⟨by rfl, by intro w'; go_simp; with_reducible rfl⟩) (by simp only [Act.put, sa_, s0_, s1_, i64_w, i32_w]; rfl) ?_
  refine pu_ 11 (some 20) HT_ rfl rfl (.inl ⟨by rfl, by intro w'; go_simp; with_reducible rfl⟩) (by simp only [Act.put, sa_, s0_, s1_, i64_w, i32_w]; rfl) ?_
  refine pu_ 12 (some 21) HT_ rfl rfl (.inl ⟨by rfl, by intro w'; go_simp; with_reducible rfl⟩) (by simp only [Act.put, sa_, s0_, s1_, i64_w, i32_w]; rfl) ?_
  refine pu_ 13 (some 22) HT_ rfl rfl (.inl ⟨by rfl, by intro w'; go_simp; with_reducible rfl⟩) (by simp only [Act.put, sa_, s0_, s1_, i64_w, i32_w]; rfl) ?_
  refine tk_ 14 (some 23) HT_ HW_ rfl rfl (.inl ⟨by rfl, by rintro w' ⟨s0, s1⟩; go_simp; with_reducible rfl⟩) hHeld (by simp only [Act.put, sa_, s0_, s1_, i64_w, i32_w]; rfl) ?_
  refine pu_ 15 (some 24) HT_ rfl rfl (.inl ⟨by rfl, by intro w'; go_simp; with_reducible rfl⟩) (by simp only [Act.put, sa_, s0_, s1_, i64_w, i32_w]; rfl) ?_
  refine on_ 16 (some 25) HT_ rfl rfl (fun K hK => ?_)
  refine goes_ Try.func46 (by kernel_rfl) rfl #[.slice A0 su.length c0, .func (.func 45) #[] #[]] (by rfl) rfl rfl (by (try simp only [List.map_toArray, List.map_cons, List.map_nil]) <;> rfl) ?_
  refine (contains46_calls 45 #[] shortB A0 c0 su _ (Kd.C_below HR0.out HB.out) hc0 (Kd.C_max HR0.out) (fun _ _ => rfl) (fun x W _ => by simpa using short_calls x W)).mono ?_
  rintro e W2 ⟨rfl, hb⟩
  refine ⟨_, rfl, ?_⟩
  have n0_ := Aside0.mk (below_step HB.out hb); have n1_ := Aside0.mk (blk_same BK.out hb); clear HB BK; have HB := n0_; have BK := n1_; clear n0_ n1_ hb
  refine hK.out _ _ ⟨(blk_cell BK.out 0).trans rfl, (blk_cell BK.out 1).trans rfl⟩ (fun hHeld => ?_)
  clear hK K
  refine norm_ (by show Act.put _ (some 25) _ = _; simp only [Act.put, sa_, s0_, s1_, i64_w, i32_w]; rfl) ?_
  (try rw [b4])
  refine pu_ 17 (some 26) HT_ rfl rfl (.inl ⟨by rfl, by intro w'; go_simp; with_reducible rfl⟩) (by simp only [Act.put, sa_, s0_, s1_, i64_w, i32_w]; rfl) ?_
  refine pu_ 18 (some 27) HT_ rfl rfl (.inl ⟨by rfl, by intro w'; go_simp; with_reducible rfl⟩) (by simp only [Act.put, sa_, s0_, s1_, i64_w, i32_w]; rfl) ?_
  refine pu_ 19 (some 28) HT_ rfl rfl (.inl ⟨by rfl, by intro w'; go_simp; with_reducible rfl⟩) (by simp only [Act.put, sa_, s0_, s1_, i64_w, i32_w]; rfl) ?_
  refine pu_ 20 (some 29) HT_ rfl rfl (.inl ⟨by rfl, by intro w'; go_simp; with_reducible rfl⟩) (by simp only [Act.put, sa_, s0_, s1_, i64_w, i32_w]; rfl) ?_
  refine tk_ 21 (some 30) HT_ HW_ rfl rfl (.inl ⟨by rfl, by rintro w' ⟨s0, s1⟩; go_simp; with_reducible rfl⟩) hHeld (by simp only [Act.put, sa_, s0_, s1_, i64_w, i32_w]; rfl) ?_
  refine pu_ 22 (some 31) HT_ rfl rfl (.inl ⟨by rfl, by intro w'; go_simp; with_reducible rfl⟩) (by simp only [Act.put, sa_, s0_, s1_, i64_w, i32_w]; rfl) ?_
  refine on_ 23 (some 32) HT_ rfl rfl (fun K hK => ?_)
  refine goes_ Try.func47 (by kernel_rfl) rfl #[.slice A1 so.length c1, .func (.func 44) #[] #[]] (by rfl) rfl rfl (by (try simp only [List.map_toArray, List.map_cons, List.map_nil]) <;> rfl) ?_
  refine (contains47_calls 44 #[] syncB A1 c1 so _ (Kd.C_below HR1.out HB.out) hc1 (Kd.C_max HR1.out) (fun _ _ => rfl) (fun x W _ => by simpa using sync_calls x W)).mono ?_
  rintro e W2 ⟨rfl, hb⟩
  refine ⟨_, rfl, ?_⟩
  have n0_ := Aside0.mk (below_step HB.out hb); have n1_ := Aside0.mk (blk_same BK.out hb); clear HB BK; have HB := n0_; have BK := n1_; clear n0_ n1_ hb
  refine hK.out _ _ ⟨(blk_cell BK.out 0).trans rfl, (blk_cell BK.out 1).trans rfl⟩ (fun hHeld => ?_)
  clear hK K
  refine norm_ (by show Act.put _ (some 32) _ = _; simp only [Act.put, sa_, s0_, s1_, i64_w, i32_w]; rfl) ?_
  (try rw [b5])
  refine pu_ 24 (some 33) HT_ rfl rfl (.inl ⟨by rfl, by intro w'; go_simp; with_reducible rfl⟩) (by simp only [Act.put, sa_, s0_, s1_, i64_w, i32_w]; rfl) ?_
  refine pu_ 25 (some 34) HT_ rfl rfl (.inl ⟨by rfl, by intro w'; go_simp; with_reducible rfl⟩) (by simp only [Act.put, sa_, s0_, s1_, i64_w, i32_w]; rfl) ?_
  refine pu_ 26 (some 35) HT_ rfl rfl (.inl ⟨by rfl, by intro w'; go_simp; with_reducible rfl⟩) (by simp only [Act.put, sa_, s0_, s1_, i64_w, i32_w]; rfl) ?_
  refine pu_ 27 (some 36) HT_ rfl rfl (.inl ⟨by rfl, by intro w'; go_simp; with_reducible rfl⟩) (by simp only [Act.put, sa_, s0_, s1_, i64_w, i32_w]; rfl) ?_
  refine tk_ 28 (some 37) HT_ HW_ rfl rfl (.inl ⟨by rfl, by rintro w' ⟨s0, s1⟩; go_simp; with_reducible rfl⟩) hHeld (by simp only [Act.put, sa_, s0_, s1_, i64_w, i32_w]; rfl) ?_
  refine pu_ 29 (some 38) HT_ rfl rfl (.inl ⟨by rfl, by intro w'; go_simp; with_reducible rfl⟩) (by simp only [Act.put, sa_, s0_, s1_, i64_w, i32_w]; rfl) ?_
  refine on_ 30 (some 39) HT_ rfl rfl (fun K hK => ?_)
  refine goes_ Try.func48 (by kernel_rfl) rfl #[.int .i64 su.length] (by rfl) rfl rfl (by (try simp only [List.map_toArray, List.map_cons, List.map_nil]) <;> rfl) ?_
  refine (oddF_calls su.length _).mono ?_
  rintro e W2 ⟨rfl, hW2⟩
  rename_i Wq
  have hb := (show Below Wq.heap.size Wq W2 by rw [hW2]; exact below_alloc (Below.refl _ _) _)
  have hg := (show W2.heap[Wq.heap.size]? = some (.cells #[.int .i64 su.length] 3 (0, 0)) by rw [hW2]; exact heap_alloc_new _ _)
  refine ⟨_, rfl, ?_⟩
  have n0_ := Aside0.mk (below_step HB.out hb); have n1_ := Aside0.mk (blk_same BK.out hb); clear HB BK; have HB := n0_; have BK := n1_; clear n0_ n1_ hb
  have HG := Aside0.mk hg; clear hg hW2; generalize Wq.heap.size = g48 at *
  refine hK.out _ _ ⟨(blk_cell BK.out 0).trans rfl, (blk_cell BK.out 1).trans rfl⟩ (fun hHeld => ?_)
  clear hK K
  refine norm_ (by show Act.put _ (some 39) _ = _; simp only [Act.put, sa_, s0_, s1_, i64_w, i32_w]; rfl) ?_
  refine on_ 31 (some 40) HT_ rfl rfl (fun K hK => ?_)
  refine goes_ Try.func47 (by kernel_rfl) rfl #[.slice A1 so.length c1, .func (.func 73) #[] #[.pointer (some ⟨g48, 0, none⟩)]] (by rfl) rfl rfl (by (try simp only [List.map_toArray, List.map_cons, List.map_nil]) <;> rfl) ?_
  refine (contains47_calls 73 #[.pointer (some ⟨g48, 0, none⟩)] (oddB su.length) A1 c1 so _ (Kd.C_below HR1.out HB.out) hc1 (Kd.C_max HR1.out) (fun _ _ => rfl) (fun x W hW => odd_calls x su.length g48 _ W HG.out hW)).mono ?_
  rintro e W2 ⟨rfl, hb⟩
  refine ⟨_, rfl, ?_⟩
  have n0_ := Aside0.mk (below_step HB.out hb); have n1_ := Aside0.mk (blk_same BK.out hb); clear HB BK; have HB := n0_; have BK := n1_; clear n0_ n1_ hb
  refine hK.out _ _ ⟨(blk_cell BK.out 0).trans rfl, (blk_cell BK.out 1).trans rfl⟩ (fun hHeld => ?_)
  clear hK K
  refine norm_ (by show Act.put _ (some 40) _ = _; simp only [Act.put, sa_, s0_, s1_, i64_w, i32_w]; rfl) ?_
  refine pu_ 32 (some 41) HT_ rfl rfl (.inl ⟨by rfl, by intro w'; go_simp; with_reducible rfl⟩) (by simp only [Act.put, sa_, s0_, s1_, i64_w, i32_w]; rfl) ?_
  refine pu_ 33 (some 42) HT_ rfl rfl (.inl ⟨by rfl, by intro w'; go_simp; with_reducible rfl⟩) (by simp only [Act.put, sa_, s0_, s1_, i64_w, i32_w]; rfl) ?_
  refine pu_ 34 (some 2) HT_ rfl rfl (.inl ⟨by rfl, by intro w'; go_simp; with_reducible rfl⟩) (by simp only [Act.put, sa_, s0_, s1_, i64_w, i32_w]; rfl) ?_
  refine done_ (done_of HT_.out (by kernel_rfl)) ?_
  go_wp2
  go_ret
  exact ⟨rfl, HB.out⟩
def disk_Right.f (l0_0 : List ByteArray) (l0_1 : List (S24)) : Option (Bool) := some (rightB l0_0 l0_1)
theorem disk_Right.calls (A0_0 : Option Addr) (c0_0 : Nat) (l0_0 : List ByteArray) (A0_1 : Option Addr) (c0_1 : Nat) (l0_1 : List (S24)) (r : Bool) (w : World) (hr0_0 : Kd.C Kd.string w A0_0 l0_0.length l0_0) (hc0_0 : l0_0.length ≤ c0_0) (hr0_1 : Kd.C k24 w A0_1 l0_1.length l0_1) (hc0_1 : l0_1.length ≤ c0_1) (h : disk_Right.f l0_0 l0_1 = some r) :
    Calls Try.prog 20 #[.agg #[.slice A0_0 l0_0.length c0_0, .slice A0_1 l0_1.length c0_1]] w fun e w' => e = .returned (.bool r) ∧ Below w.heap.size w w' := by
  obtain rfl := Option.some.inj h
  unfold rightB
  cases h0 : decide ((l0_0.length : Int) ≥ 1)
  · exact disk_Right.way0 _ _ _ _ _ _ w hr0_0 hc0_0 hr0_1 hc0_1 h0
  cases h1 : decide ((l0_0.length : Int) ≤ 400)
  · exact disk_Right.way1 _ _ _ _ _ _ w hr0_0 hc0_0 hr0_1 hc0_1 h0 h1
  cases h2 : decide ((l0_1.length : Int) ≤ 3000)
  · exact disk_Right.way2 _ _ _ _ _ _ w hr0_0 hc0_0 hr0_1 hc0_1 h0 h1 h2
  cases b4 : l0_0.any shortB
  · cases b5 : l0_1.any syncB
    · exact disk_Right.way5 _ _ _ _ _ _ w hr0_0 hc0_0 hr0_1 hc0_1 h0 h1 h2 b4 b5
    · exact disk_Right.way4 _ _ _ _ _ _ w hr0_0 hc0_0 hr0_1 hc0_1 h0 h1 h2 b4 b5
  · exact disk_Right.way3 _ _ _ _ _ _ w hr0_0 hc0_0 hr0_1 hc0_1 h0 h1 h2 b4
end Go.Proofs.Ytcfinlmocgbnbaa.Pr
end
section
namespace Go.Proofs.Ytcfinlmocgbnbaa.Pr
open Go.Proofs.Ytcfinlmocgbnbaa.Sq Go.RowKit Go.Proofs.YtcfinlmocgbnbaaW.PrintWords Go.Proofs.YtcfinlmocgbnbaaW.PrintLast Go.Proofs.YtcfinlmocgbnbaaW.PrintMore
attribute [local go_sem] max2_int min2_int max_two min_two max_three min_three max_four min_four
set_option linter.unusedVariables false
set_option linter.unusedSimpArgs false
def vault_may.f (l0_0 : List ByteArray) (l0_1 : List (S24)) : Option (Bool) := (disk_Right.f l0_0 l0_1).bind fun tz2 => (if tz2 = true then (some (decide ((l0_0.length : Int) ≥ 4))) else (some false))
set_option maxHeartbeats 8000000 in
set_option maxRecDepth 100000 in
theorem vault_may.calls (A0_0 : Option Addr) (c0_0 : Nat) (l0_0 : List ByteArray) (A0_1 : Option Addr) (c0_1 : Nat) (l0_1 : List (S24)) (r : Bool) (w : World) (hr0_0 : Kd.C Kd.string w A0_0 l0_0.length l0_0) (hc0_0 : l0_0.length ≤ c0_0) (hr0_1 : Kd.C k24 w A0_1 l0_1.length l0_1) (hc0_1 : l0_1.length ≤ c0_1) (h : vault_may.f l0_0 l0_1 = some r) :
  Calls Try.prog 54 #[.agg #[.slice A0_0 l0_0.length c0_0, .slice A0_1 l0_1.length c0_1]] w fun e w' => e = .returned (.bool r) ∧ Below w.heap.size w w' := by
 have hu30 := Try.underlying30
 have HR0_0 := am hr0_0
 have HC0_0 := am hc0_0
 clear hr0_0 hc0_0
 have HR0_1 := am hr0_1
 have HC0_1 := am hc0_1
 clear hr0_1 hc0_1
 have HB := am (Below.refl w.heap.size w)
 have H : ((disk_Right.f l0_0 l0_1).bind fun tz2 => (if tz2 = true then (some (decide ((l0_0.length : Int) ≥ 4))) else (some false))) = some r := h
 clear h
 replace H := ob_ H
 obtain ⟨tz2, A20, H⟩ := H
 replace H : (if tz2 = true then (some (decide ((l0_0.length : Int) ≥ 4))) else (some false)) = some r := H
 have A2 := Aside0.mk A20
 clear A20
 by_cases c3 : tz2 = true
 rotate_left
 ·replace c3 := Bool.eq_false_iff.mpr c3
  subst c3
  have H1 : (some false) = some r := by rw [if_neg (show ¬ (false = true) by decide)] at H; exact H
  clear H
  have H := H1
  clear H1
  obtain rfl := Option.some.inj H
  go_enter Try.func54, Try.ntmps54
  go_wp2_with (first | ((with_reducible refine gate_dst (N := 1) rfl ?_); (try (refine gate_guard (by rfl) ?_; dsimp only)); refine box_event ?hg (N := 1) ?hd (cs := #[.slice A0_0 l0_0.length c0_0, .slice A0_1 l0_1.length c0_1]) (t := 30) ?hr ?_; (case hd => rfl); (case hg => rfl); (case hr => first | (go_simp; done) | (go_simp; rfl)); intro gbz1 hg w8 hbox hb; have n0_ := am (below_step (pb HB) hb); have n1_ := am (hbox); have n2_ := ge_ hg (pb HB); have n3_ := ge_ hg (pb HB); clear HB; have HB := n0_; have BKz1 := n1_; have GWz1 := n2_; have GEz1 := n3_; clear n0_ n1_ n2_ n3_; clear hb hbox hg; obtain ⟨hcz9_0, hcz9_1⟩ := bc2 BKz1; obtain ⟨hfz9_0, hfz9_1⟩ := bf2 BKz1) | ((with_reducible refine gate_callee (f := 20) rfl ?_); refine goesL_ (some 4) rfl rfl Try.func20 (by kernel_rfl) rfl #[.agg #[.slice A0_0 l0_0.length c0_0, .slice A0_1 l0_1.length c0_1]] rfl (by (try simp only [List.map_toArray, List.map_cons, List.map_nil]) <;> rfl) ?_; (with_reducible refine (disk_Right.calls _ _ l0_0 _ _ l0_1 false _ ?side1 ?side2 ?side3 ?side4 A2.out).mono ?_); (case side1 => repeat (first | exact (Kd.C_below HR0_0.out HB.out) | (with_reducible refine Kd.C_alloc ?_ _) | (with_reducible refine Kd.C_drewN ?_ _) | (with_reducible refine Kd.C_drew ?_))); (case side2 => exact HC0_0.out); (case side3 => repeat (first | exact (Kd.C_below HR0_1.out HB.out) | (with_reducible refine Kd.C_alloc ?_ _) | (with_reducible refine Kd.C_drewN ?_ _) | (with_reducible refine Kd.C_drew ?_))); (case side4 => exact HC0_1.out); rintro e w10 ⟨rfl, hb⟩; refine ⟨_, rfl, ?_⟩; have n0_ := am (bkB (pk BKz1) hb); have n1_ := am (below_step (by repeat first | (with_reducible first | exact HB.out | apply ba | apply bn | apply bd | refine bs (by assumption) ?_) | exact HB.out) hb); clear BKz1; clear HB; have BKz1 := n0_; have HB := n1_; clear n0_ n1_; (try clear hi)))
  go_ret
  exact ⟨by first | rfl | (simp <;> rfl) | (simp [*] <;> rfl), by repeat first | (with_reducible first | exact HB.out | apply ba | apply bn | apply bd | refine bs (by assumption) ?_) | exact HB.out⟩
 subst c3
 have H1 : (some (decide ((l0_0.length : Int) ≥ 4))) = some r := by rw [if_pos rfl] at H; exact H
 clear H
 have H := H1
 clear H1
 obtain rfl := Option.some.inj H
 go_enter Try.func54, Try.ntmps54
 go_wp2_with (first | ((with_reducible refine gate_dst (N := 1) rfl ?_); (try (refine gate_guard (by rfl) ?_; dsimp only)); refine box_event ?hg (N := 1) ?hd (cs := #[.slice A0_0 l0_0.length c0_0, .slice A0_1 l0_1.length c0_1]) (t := 30) ?hr ?_; (case hd => rfl); (case hg => rfl); (case hr => first | (go_simp; done) | (go_simp; rfl)); intro gbz1 hg w4 hbox hb; have n0_ := am (below_step (pb HB) hb); have n1_ := am (hbox); have n2_ := ge_ hg (pb HB); have n3_ := ge_ hg (pb HB); clear HB; have HB := n0_; have BKz1 := n1_; have GWz1 := n2_; have GEz1 := n3_; clear n0_ n1_ n2_ n3_; clear hb hbox hg; obtain ⟨hcz5_0, hcz5_1⟩ := bc2 BKz1; obtain ⟨hfz5_0, hfz5_1⟩ := bf2 BKz1) | ((with_reducible refine gate_callee (f := 20) rfl ?_); refine goesL_ (some 4) rfl rfl Try.func20 (by kernel_rfl) rfl #[.agg #[.slice A0_0 l0_0.length c0_0, .slice A0_1 l0_1.length c0_1]] rfl (by (try simp only [List.map_toArray, List.map_cons, List.map_nil]) <;> rfl) ?_; (with_reducible refine (disk_Right.calls _ _ l0_0 _ _ l0_1 true _ ?side1 ?side2 ?side3 ?side4 A2.out).mono ?_); (case side1 => repeat (first | exact (Kd.C_below HR0_0.out HB.out) | (with_reducible refine Kd.C_alloc ?_ _) | (with_reducible refine Kd.C_drewN ?_ _) | (with_reducible refine Kd.C_drew ?_))); (case side2 => exact HC0_0.out); (case side3 => repeat (first | exact (Kd.C_below HR0_1.out HB.out) | (with_reducible refine Kd.C_alloc ?_ _) | (with_reducible refine Kd.C_drewN ?_ _) | (with_reducible refine Kd.C_drew ?_))); (case side4 => exact HC0_1.out); rintro e w6 ⟨rfl, hb⟩; refine ⟨_, rfl, ?_⟩; have n0_ := am (bkB (pk BKz1) hb); have n1_ := am (below_step (by repeat first | (with_reducible first | exact HB.out | apply ba | apply bn | apply bd | refine bs (by assumption) ?_) | exact HB.out) hb); clear BKz1; clear HB; have BKz1 := n0_; have HB := n1_; clear n0_ n1_; obtain ⟨hcz7_0, hcz7_1⟩ := bc2 BKz1; obtain ⟨hfz7_0, hfz7_1⟩ := bf2 BKz1))
 go_ret
 exact ⟨by first | rfl | (simp <;> rfl) | (simp [*] <;> rfl), by repeat first | (with_reducible first | exact HB.out | apply ba | apply bn | apply bd | refine bs (by assumption) ?_) | exact HB.out⟩
end Go.Proofs.Ytcfinlmocgbnbaa.Pr
end
section
namespace Go.Proofs.Ytcfinlmocgbnbaa.Pr
open Go.RowKit Go.Proofs.YtcfinlmocgbnbaaW.PrintWords Go.Proofs.YtcfinlmocgbnbaaW.PrintLast Go.Proofs.YtcfinlmocgbnbaaW.PrintMore
set_option linter.unusedVariables false
set_option linter.unusedSimpArgs false
def slices_Clone_string_string.f (l0 : List ByteArray) : Option (List ByteArray) := if l0.length < 8796093022208 then some l0 else none
set_option maxHeartbeats 8000000 in
set_option maxRecDepth 100000 in
theorem slices_Clone_string_string.calls (A0 : Option Addr) (c0 : Nat) (l0 : List ByteArray) (r : List ByteArray) (w : World) (hr0 : Kd.C Kd.string w A0 l0.length l0) (hc0 : l0.length ≤ c0) (h : slices_Clone_string_string.f l0 = some r) :
    Calls Try.prog 76 #[.slice A0 l0.length c0] w fun e w' => ∃ v0_ : Value, e = .returned (v0_) ∧ Kd.R Kd.string 9 w' w.heap.size (fun _ => True) v0_ r ∧ Below w.heap.size w w' := by
  have q24 : ∀ (w : World) (a : Option Addr) (n c : Nat), (binOp .eql 27 (.slice a n c) (.slice none 0 0)).run Try.prog w = .ok (.bool a.isNone) w := fun w a n c => Lib.run_eql_slice_nil w _ _ a n c 0 0 Try.underlying27
  unfold slices_Clone_string_string.f at h
  by_cases hl : l0.length < 8796093022208
  · rw [if_pos hl] at h
    obtain rfl := Option.some.inj h
    have HR0 := Aside0.mk hr0
    have LM := Aside0.mk hl
    clear h hl hr0 hc0
    cases A0 with
    | none =>
      have h0 : l0 = [] := by
        cases l0 with
        | nil => rfl
        | cons x xs =>
          obtain ⟨ad, e, _⟩ := HR0.out.2.2 (by simp)
          cases e
      clear HR0
      subst h0
      go_enter Try.func76, Try.ntmps76
      go_wp2
      go_ret
      exact ⟨_, rfl, Kd.R_nil _ _ _ _ _, Below.refl _ _⟩
    | some ad =>
      have HB := Aside0.mk (Below.refl w.heap.size w)
      go_enter Try.func76, Try.ntmps76
      go_wp2_with (first | ((with_reducible refine gate_dst (N := 5) rfl ?_); refine Kd.R_lit Kd.string _ 9 ?hg (N := 5) ?hd (xs := ([] : List ByteArray)) (inner := []) (ok := fun _ => True) (okp := fun _ => True) ?hr ?hp (fun _ hk => hk) trivial (Below.refl _ _) (Nat.le_refl _) (by simp) ?_; (case hd => rfl); (case hg => rfl); (case hr => first | (go_simp; done) | (go_simp; rfl)); (case hp => exact Reps.none _ _); intro v126 w34 ho35 hb hg_ hnew_; clear hg_ hnew_; have n1_ := Aside0.mk (Kd.C_below HR0.out hb); have n0_ := Aside0.mk hb; have n2_ := Aside0.mk ho35; clear HB HR0; have HB := n0_; have HR0 := n1_; have HO := n2_; clear n0_ n1_ n2_ hb ho35) | ((with_reducible refine gate_builtin (b := .append) (xs := #[.tmp 5, .tmp 6]) rfl ?_); at_builtin; refine Kd.R_append_rows Kd.string (w0 := w) w.heap.size rfl (.tmp 5) (.tmp 6) 27 9 (.string ⟨#[]⟩) 16 rfl Try.underlying27 info9 rfl (by decide) (by omega) v126 ([] : List ByteArray) l0 _ _ _ (fun _ => True) (fun _ => False) rfl rfl ?aO ?aR (fun _ _ h => h) (fun _ h => h.elim) ?aF ?aB ?aS ?aL ?_; (case aO => exact HO.out); (case aR => exact HR0.out); (case aF => exact fun _ _ => trivial); (case aB => exact HB.out); (case aS => exact HB.out.size); (case aL => have := LM.out; simp only [List.length_nil]; omega); intro v7 w7 ho7 hb7 hg7 hn7; clear hg7 hn7; rw [List.nil_append] at ho7; have HO2 := Aside0.mk ho7; have HB2 := Aside0.mk hb7; clear ho7 hb7))
      go_ret
      exact ⟨_, rfl, HO2.out, HB2.out⟩
  · rw [if_neg hl] at h
    cases h
def api_Move_77.f (l0 : List S24) : Option (List S24) := if l0.length < 4398046511104 then some l0 else none
set_option maxHeartbeats 8000000 in
set_option maxRecDepth 100000 in
theorem api_Move_77.calls (A0 : Option Addr) (c0 : Nat) (l0 : List S24) (r : List S24) (w : World) (hr0 : Kd.C k24 w A0 l0.length l0) (hc0 : l0.length ≤ c0) (h : api_Move_77.f l0 = some r) :
    Calls Try.prog 77 #[.slice A0 l0.length c0] w fun e w' => ∃ v0_ : Value, e = .returned (v0_) ∧ Kd.R k24 24 w' w.heap.size (fun _ => True) v0_ r ∧ Below w.heap.size w w' := by
  have q24 : ∀ (w : World) (a : Option Addr) (n c : Nat), (binOp .eql 28 (.slice a n c) (.slice none 0 0)).run Try.prog w = .ok (.bool a.isNone) w := fun w a n c => Lib.run_eql_slice_nil w _ _ a n c 0 0 Try.underlying28
  unfold api_Move_77.f at h
  by_cases hl : l0.length < 4398046511104
  · rw [if_pos hl] at h
    obtain rfl := Option.some.inj h
    have HR0 := Aside0.mk hr0
    have LM := Aside0.mk hl
    clear h hl hr0 hc0
    cases A0 with
    | none =>
      have h0 : l0 = [] := by
        cases l0 with
        | nil => rfl
        | cons x xs =>
          obtain ⟨ad, e, _⟩ := HR0.out.2.2 (by simp)
          cases e
      clear HR0
      subst h0
      go_enter Try.func77, Try.ntmps77
      go_wp2
      go_ret
      exact ⟨_, rfl, Kd.R_nil _ _ _ _ _, Below.refl _ _⟩
    | some ad =>
      have HB := Aside0.mk (Below.refl w.heap.size w)
      go_enter Try.func77, Try.ntmps77
      go_wp2_with (first | ((with_reducible refine gate_dst (N := 5) rfl ?_); refine Kd.R_lit k24 _ 24 ?hg (N := 5) ?hd (xs := ([] : List S24)) (inner := []) (ok := fun _ => True) (okp := fun _ => True) ?hr ?hp (fun _ hk => hk) trivial (Below.refl _ _) (Nat.le_refl _) (by simp) ?_; (case hd => rfl); (case hg => rfl); (case hr => first | (go_simp; done) | (go_simp; rfl)); (case hp => exact Reps.none _ _); intro v126 w34 ho35 hb hg_ hnew_; clear hg_ hnew_; have n1_ := Aside0.mk (Kd.C_below HR0.out hb); have n0_ := Aside0.mk hb; have n2_ := Aside0.mk ho35; clear HB HR0; have HB := n0_; have HR0 := n1_; have HO := n2_; clear n0_ n1_ n2_ hb ho35) | ((with_reducible refine gate_builtin (b := .append) (xs := #[.tmp 5, .tmp 6]) rfl ?_); at_builtin; refine Kd.R_append_rows k24 (w0 := w) w.heap.size rfl (.tmp 5) (.tmp 6) 28 24 (.agg #[(.bool false), (.int .i64 0), (.string ⟨#[]⟩)]) 32 rfl Try.underlying28 info24 rfl (by decide) (by omega) v126 ([] : List S24) l0 _ _ _ (fun _ => True) (fun _ => False) rfl rfl ?aO ?aR (fun _ _ h => h) (fun _ h => h.elim) ?aF ?aB ?aS ?aL ?_; (case aO => exact HO.out); (case aR => exact HR0.out); (case aF => exact fun _ _ => trivial); (case aB => exact HB.out); (case aS => exact HB.out.size); (case aL => have := LM.out; simp only [List.length_nil]; omega); intro v7 w7 ho7 hb7 hg7 hn7; clear hg7 hn7; rw [List.nil_append] at ho7; have HO2 := Aside0.mk ho7; have HB2 := Aside0.mk hb7; clear ho7 hb7))
      go_ret
      exact ⟨_, rfl, HO2.out, HB2.out⟩
  · rw [if_neg hl] at h
    cases h
end Go.Proofs.Ytcfinlmocgbnbaa.Pr
end
section
namespace Go.Proofs.Ytcfinlmocgbnbaa.Pr
open Go.Proofs.Ytcfinlmocgbnbaa.Sq Go.RowKit Go.Proofs.YtcfinlmocgbnbaaW.PrintWords Go.Proofs.YtcfinlmocgbnbaaW.PrintLast Go.Proofs.YtcfinlmocgbnbaaW.PrintMore
attribute [local go_sem] max2_int min2_int max_two min_two max_three min_three max_four min_four
set_option linter.unusedVariables false
set_option linter.unusedSimpArgs false
def vault_own.f (l0_0 : List ByteArray) (l0_1 : List (S24)) : Option (List ByteArray × (List (S24))) := (slices_Clone_string_string.f l0_0).bind fun tz3 => ((api_Move_77.f l0_1).bind fun tz6 => (some (tz3, tz6)))
def vault_own.T1 : Bool × List (List Nat × List Nat) := (true, [([], []), ([0], [0]), ([1], [1]), ([], []), ([3], [3]), ([4, 2], [4]), ([2, 5], [2, 5]), ([6, 5, 0, 1, 2, 3, 4, 5, 6], [6])])
def vault_own.B1 : List Nat := [0, 1, 3, 0, 8, 31, 63, 127]
theorem vault_own.tab1 : rtab .any (opsOf Try.f55 1) = vault_own.T1 := by kernel_rfl
theorem vault_own.bits1 : waitsOk vault_own.T1.2 vault_own.B1 = true := by kernel_rfl
set_option maxHeartbeats 8000000 in
set_option maxRecDepth 100000 in
theorem vault_own.calls (A0_0 : Option Addr) (c0_0 : Nat) (l0_0 : List ByteArray) (A0_1 : Option Addr) (c0_1 : Nat) (l0_1 : List (S24)) (r1 : List ByteArray) (r2 : List (S24)) (w : World) (hr0_0 : Kd.C Kd.string w A0_0 l0_0.length l0_0) (hc0_0 : l0_0.length ≤ c0_0) (hr0_1 : Kd.C k24 w A0_1 l0_1.length l0_1) (hc0_1 : l0_1.length ≤ c0_1) (h : vault_own.f l0_0 l0_1 = some (r1, r2)) :
  Calls Try.prog 55 #[.agg #[.slice A0_0 l0_0.length c0_0, .slice A0_1 l0_1.length c0_1]] w fun e w' => ∃ v0_ v1_ : Value, e = .returned (.agg #[v0_, v1_]) ∧ Kd.R Kd.string 9 w' w.heap.size (fun _ => True) v0_ r1 ∧ Kd.R k24 24 w' w.heap.size (fun _ => True) v1_ r2 ∧ Below w.heap.size w w' := by
 have hu30 := Try.underlying30
 have HR0_0 := am hr0_0
 have HC0_0 := am hc0_0
 clear hr0_0 hc0_0
 have HR0_1 := am hr0_1
 have HC0_1 := am hc0_1
 clear hr0_1 hc0_1
 have HB := am (Below.refl w.heap.size w)
 have H : ((slices_Clone_string_string.f l0_0).bind fun tz3 => ((api_Move_77.f l0_1).bind fun tz6 => (some (tz3, tz6)))) = some (r1, r2) := h
 clear h
 replace H := ob_ H
 obtain ⟨tz3, A20, H⟩ := H
 replace H : ((api_Move_77.f l0_1).bind fun tz6 => (some (tz3, tz6))) = some (r1, r2) := H
 have A2 := Aside0.mk A20
 clear A20
 replace H := ob_ H
 obtain ⟨tz6, A30, H⟩ := H
 replace H : (some (tz3, tz6)) = some (r1, r2) := H
 have A3 := Aside0.mk A30
 clear A30
 simp only [Option.some.injEq, Prod.mk.injEq] at H
 obtain ⟨rfl, rfl⟩ := H
 go_enter Try.func55, Try.ntmps55
 try go_wp2_with (first | ((with_reducible refine gate_dst (N := 1) rfl ?_); refine box_event ?hg (N := 1) ?hd (cs := #[.slice A0_0 l0_0.length c0_0, .slice A0_1 l0_1.length c0_1]) (t := 30) ?hr ?_; (case hd => rfl); (case hg => rfl); (case hr => first | (go_simp; done) | (go_simp; rfl)); intro gbz1 hg w4 hbox hb; have n0_ := am (below_step (pb HB) hb); have n1_ := am (hbox); have n2_ := ge_ hg (pb HB); have n3_ := ge_ hg (pb HB); clear HB; have HB := n0_; have BKz1 := n1_; have GWz1 := n2_; have GEz1 := n3_; clear n0_ n1_ n2_ n3_; clear hb hbox hg) | ((with_reducible refine gate_dst (N := 2) rfl ?_); refine box_event ?hg (N := 2) ?hd (cs := #[.slice none 0 0, .slice none 0 0]) (t := 30) ?hr ?_; (case hd => rfl); (case hg => rfl); (case hr => first | (go_simp; done) | (go_simp; rfl)); intro gbz2 hg w5 hbox hb; have n0_ := am (bkB (pk BKz1) hb); have n1_ := am (below_step (by repeat first | (with_reducible first | exact HB.out | apply ba | apply bn | apply bd | refine bs (by assumption) ?_) | exact HB.out) hb); have n2_ := am (hbox); have n3_ := ge_ hg (by repeat first | (with_reducible first | exact HB.out | apply ba | apply bn | apply bd | refine bs (by assumption) ?_) | exact HB.out); have n4_ := ge_ hg (by repeat first | (with_reducible first | exact HB.out | apply ba | apply bn | apply bd | refine bs (by assumption) ?_) | exact HB.out); have n5_ := nl_ hg BKz1; have n6_ := ng_ hg BKz1; clear BKz1; clear HB; have BKz1 := n0_; have HB := n1_; have BKz2 := n2_; have GWz2 := n3_; have GEz2 := n4_; have NBz1_z2 := n5_; have NBz2_z1 := n6_; clear n0_ n1_ n2_ n3_ n4_ n5_ n6_; clear hb hbox hg))
 have n0_ := am (bkD BKz1.out)
 have n1_ := am (bkD BKz2.out)
 have n2_ := am (below_drew1 HB.out)
 clear BKz1 BKz2 HB; have BKz1 := n0_; have BKz2 := n1_; have HB := n2_; clear n0_ n1_ n2_
 refine start_ (n := 8) (S := fun w' => w'.cell? ⟨gbz1, 0, none⟩ = some (.slice A0_0 l0_0.length c0_0) ∧ w'.cell? ⟨gbz1, 1, none⟩ = some (.slice A0_1 l0_1.length c0_1)) (ds := []) #[false, false, false, false, false, false, false, false] (by kernel_rfl) rfl rfl (bc2 BKz1) (fun hHeld => ?_); refine with_tabW vault_own.tab1 vault_own.bits1 (fun HT_ HW_ => ?_)
 generalize w5.drew = w6 at BKz1 BKz2 HB hHeld ⊢
 refine pu_ 0 (some 3) HT_ rfl rfl (.inl ⟨by rfl, by intro w'; go_simp; with_reducible rfl⟩) (by simp only [Act.put, sa_, s0_, s1_, i64_w, i32_w]; rfl) ?_
 refine pu_ 3 (some 6) HT_ rfl rfl (.inl ⟨by rfl, by intro w'; go_simp; with_reducible rfl⟩) (by simp only [Act.put, sa_, s0_, s1_, i64_w, i32_w]; rfl) ?_
 refine tk_ 1 (some 4) HT_ HW_ rfl rfl (.inl ⟨by rfl, by rintro w' ⟨s0, s1⟩; go_simp; with_reducible rfl⟩) hHeld (by simp only [Act.put, sa_, s0_, s1_, i64_w, i32_w]; rfl) ?_
 refine tk_ 4 (some 7) HT_ HW_ rfl rfl (.inl ⟨by rfl, by rintro w' ⟨s0, s1⟩; go_simp; with_reducible rfl⟩) hHeld (by simp only [Act.put, sa_, s0_, s1_, i64_w, i32_w]; rfl) ?_
 refine on_ 2 (some 5) HT_ rfl rfl (fun K hK => ?_)
 refine goes_ Try.func76 (by kernel_rfl) rfl #[.slice A0_0 l0_0.length c0_0] (by rfl) rfl rfl (by (try simp only [List.map_toArray, List.map_cons, List.map_nil]) <;> rfl) ?_
 with_reducible refine (slices_Clone_string_string.calls _ _ l0_0 tz3 _ ?side1 ?side2 A2.out).mono ?_
 (case side1 => repeat (first | exact (Kd.C_below HR0_0.out HB.out) | (with_reducible refine Kd.C_alloc ?_ _) | (with_reducible refine Kd.C_drewN ?_ _) | (with_reducible refine Kd.C_drew ?_)))
 (case side2 => exact HC0_0.out)
 rintro e w7 ⟨vz4, rfl, ho0, hb⟩
 refine ⟨_, rfl, ?_⟩
 have n0_ := am (Kd.R_lower ho0 (below_size (by repeat first | (with_reducible first | exact HB.out | apply ba | apply bn | apply bd | refine bs (by assumption) ?_) | exact HB.out)))
 have n1_ := am (bkB (pk BKz1) hb)
 have n2_ := am (bkB (pk BKz2) hb)
 have n3_ := am (below_step (by repeat first | (with_reducible first | exact HB.out | apply ba | apply bn | apply bd | refine bs (by assumption) ?_) | exact HB.out) hb)
 clear BKz1 BKz2 HB; have HOz5 := n0_; have BKz1 := n1_; have BKz2 := n2_; have HB := n3_; clear n0_ n1_ n2_ n3_; refine hK.out _ _ (bc2 BKz1) (fun hHeld => ?_)
 clear hK K
 refine norm_ (by show Act.put _ (some 5) _ = _; simp only [Act.put, sa_, s0_, s1_, i64_w, i32_w]; rfl) ?_
 refine on_ 5 (some 8) HT_ rfl rfl (fun K hK => ?_)
 refine goes_ Try.func77 (by kernel_rfl) rfl #[.slice A0_1 l0_1.length c0_1] (by rfl) rfl rfl (by (try simp only [List.map_toArray, List.map_cons, List.map_nil]) <;> rfl) ?_
 with_reducible refine (api_Move_77.calls _ _ l0_1 tz6 _ ?side1 ?side2 A3.out).mono ?_
 (case side1 => repeat (first | exact (Kd.C_below HR0_1.out HB.out) | (with_reducible refine Kd.C_alloc ?_ _) | (with_reducible refine Kd.C_drewN ?_ _) | (with_reducible refine Kd.C_drew ?_)))
 (case side2 => exact HC0_1.out)
 rintro e w8 ⟨vz7, rfl, ho0, hb⟩
 refine ⟨_, rfl, ?_⟩
 have n0_ := am (Kd.R_below (pr HOz5) hb)
 have n1_ := am (Kd.R_lower ho0 (below_size (by repeat first | (with_reducible first | exact HB.out | apply ba | apply bn | apply bd | refine bs (by assumption) ?_) | exact HB.out)))
 have n2_ := am (bkB (pk BKz1) hb)
 have n3_ := am (bkB (pk BKz2) hb)
 have n4_ := am (below_step (by repeat first | (with_reducible first | exact HB.out | apply ba | apply bn | apply bd | refine bs (by assumption) ?_) | exact HB.out) hb)
 clear HOz5 BKz1 BKz2 HB; have HOz5 := n0_; have HOz8 := n1_; have BKz1 := n2_; have BKz2 := n3_; have HB := n4_; clear n0_ n1_ n2_ n3_ n4_; obtain ⟨Ao9, co9, eo9⟩ := Kd.R_slice HOz8.out
 (first | subst eo9 | (injection eo9 with f1_ f2_ f3_; have f4_ := f1_.symm; have f5_ := f3_.symm; clear f1_ f2_ f3_; subst f4_; subst f5_))
 obtain ⟨Ao10, co10, eo10⟩ := Kd.R_slice HOz5.out
 (first | subst eo10 | (injection eo10 with f1_ f2_ f3_; have f4_ := f1_.symm; have f5_ := f3_.symm; clear f1_ f2_ f3_; subst f4_; subst f5_))
 refine hK.out _ _ (bc2 BKz1) (fun hHeld => ?_)
 clear hK K
 refine norm_ (by show Act.put _ (some 8) _ = _; simp only [Act.put, sa_, s0_, s1_, i64_w, i32_w]; rfl) ?_
 refine pu_ 6 (some 9) HT_ rfl rfl (.inl ⟨by rfl, by intro w'; go_simp; with_reducible rfl⟩) (by simp only [Act.put, sa_, s0_, s1_, i64_w, i32_w]; rfl) ?_
 refine on_ 7 none HT_ rfl rfl (fun K hK => ?_)
 have hs11 : w8.cell? ⟨gbz2, 0, none⟩ = some (.slice none 0 0) := (blk_cell BKz2.out 0).trans rfl
 have hfs11 := blk_frozen BKz2.out 0
 have := NBz1_z2.out
 have := NBz2_z1.out
 have hs12 : w8.cell? ⟨gbz2, 1, none⟩ = some (.slice none 0 0) := (blk_cell BKz2.out 1).trans rfl
 have hfs12 := blk_frozen BKz2.out 1
 have := NBz1_z2.out
 have := NBz2_z1.out
 refine skip_ (by rfl) rfl (by go_simp; rfl) ?_
 refine hK.out _ _ ⟨((cell_far (p := ⟨gbz2, _, none⟩) NBz1_z2.out _).trans (((cell_far (p := ⟨gbz2, _, none⟩) NBz1_z2.out _).trans (hHeld.1)))), ((cell_far (p := ⟨gbz2, _, none⟩) NBz1_z2.out _).trans (((cell_far (p := ⟨gbz2, _, none⟩) NBz1_z2.out _).trans (hHeld.2))))⟩ (fun hHeld => ?_)
 clear hK K
 refine done_ (done_of HT_.out (by kernel_rfl)) ?_
 try go_wp2
 refine bodyPost_ret (results_cell_row rfl _ _ gbz2 30 #[.slice Ao10 tz3.length co10, .slice Ao9 tz6.length co9] (0, 0) _ rfl (by (with_reducible repeat (first | refine blk_drewN ?_ _ | refine bkD ?_ | refine bkA ?_ _)); apply bp2; exact pk BKz2) Try.underlying30 rfl (by kernel_rfl)) rfl ?_
 exact ⟨_, _, by first | rfl | (simp <;> rfl) | (simp [*] <;> rfl), by (with_reducible repeat first | apply ra | apply rn | apply rd); exact Kd.R_mono (rf2 (Kd.R_types HOz5.out BKz2.out (by decide)) (fun _ hk => hk.2)) (fun _ hk => trivial), by (with_reducible repeat first | apply ra | apply rn | apply rd); exact Kd.R_mono (rf2 (Kd.R_types HOz8.out BKz2.out (by decide)) (fun _ hk => hk.2)) (fun _ hk => trivial), by repeat first | (with_reducible first | exact HB.out | apply ba | apply bn | apply bd | refine bs (by assumption) ?_) | exact HB.out⟩
end Go.Proofs.Ytcfinlmocgbnbaa.Pr
end
section
set_option linter.unusedVariables false
namespace Go.Proofs.Ytcfinlmocgbnbaa.XB
open Go.RowKit
section
variable {P : Program} {ops : Array Oper} {md : Region.Mode} {C : World → Prop}
def HeadQ (P : Program) (md : Region.Mode) (ops : Array Oper) (C : World → Prop) (n : Nat) (L : Array Bool → Act → Prop) : Nat → Array Bool → Act → Prop
  | 0, up, a => L up a
  | f + 1, up, a => Region.ready md ops up ≠ [] ∧ ∀ i ∈ Region.ready md ops up, i < n ∧ qOp P ops C i (HeadQ P md ops C n L f (up.setIfInBounds i true)) a
theorem HeadQ.any {n g : Nat} {L : Array Bool → Act → Prop} {Q : Exit → Act → World → Prop} (hL : ∀ up a w, C w → L up a → wpAny P md ops Q g up a w) :
    ∀ (f : Nat) (up : Array Bool) (a : Act) (w : World), C w → HeadQ P md ops C n L f up a → wpAny P md ops Q (f + g) up a w
  | 0, up, a, w, hC, h => by rw [Nat.zero_add]; exact hL _ _ _ hC h
  | f + 1, up, a, w, hC, h => by
    rw [show f + 1 + g = (f + g) + 1 by omega]
    exact ⟨fun h0 => absurd h0 h.1, fun i hi => wpOp_of_qOp hC (fun a' w' hC' h' => HeadQ.any hL f _ a' w' hC' h') (h.2 i hi).2⟩
theorem HeadQ.first {n i : Nat} {oi : Oper} {v : Value} {L : Array Bool → Act → Prop} (hi : ops[i]? = some oi) (hsel : ∀ (j : Nat) (o : Oper) cs b, ops[j]? = some o → o.op ≠ .select cs b)
    (hs : Region.sinkB md ops n = true) (hc : Region.chainB md ops n = true) (hn : n < ops.size) (hin : i < n) (hdone : ∀ up a, L up a → ∀ j ∈ Region.ready md ops up, n ≤ j) :
    ∀ (f : Nat) (up : Array Bool) (a : Act), HeadInv md ops n up →
      (∀ j oj, ops[j]? = some oj → j ≠ i → up.getD j true = false → (∀ e ∈ oj.after, Region.binds md e = true → e.on ≠ i) → oi.apart ops oj = true) →
      i ∈ Region.ready md ops up → YieldsIn P ops C oi v a → HeadQ P md ops C n L f (up.setIfInBounds i true) (a.put oi.dst v) → HeadQ P md ops C n L (f + 1) up a := by
  intro f
  induction f with
  | zero =>
    intro up a inv _ hr hy H
    refine ⟨List.ne_nil_of_mem hr, fun j hj => ?_⟩
    have hjn : j < n := Nat.lt_of_not_le fun h => tail_waits hs hc hn inv _ i rfl hin (mem_ready.1 hr).1 j h hj
    refine ⟨hjn, ?_⟩
    by_cases hji : j = i
    · subst hji; exact hy.qOp hi H
    · exact absurd (hdone _ _ H j (ready_mono hj hji)) (by omega)
  | succ f ih =>
    intro up a inv hfree hr hy H
    refine ⟨List.ne_nil_of_mem hr, fun j hj => ?_⟩
    have hjn : j < n := Nat.lt_of_not_le fun h => tail_waits hs hc hn inv _ i rfl hin (mem_ready.1 hr).1 j h hj
    refine ⟨hjn, ?_⟩
    by_cases hji : j = i
    · subst hji; exact hy.qOp hi H
    · obtain ⟨hjun, oj, hoj, hall⟩ := mem_ready.1 hj
      have hun := (mem_ready.1 hr).1
      have hnot : ∀ e ∈ oj.after, Region.binds md e = true → e.on ≠ i := fun e he hb heq => by
        have h1 := hall e he hb
        rw [heq, getD_both hun] at h1
        cases h1
      have h2 := qOp_put hoj (hfree j oj hoj hji hjun hnot) (fun cs b => hsel i oi cs b hi) (fun cs b => hsel j oj cs b hoj) hy (H.2 j (ready_mono hj hji)).2
      refine qOp_mono (fun a' h3 => ih (up.setIfInBounds j true) a' (inv.set hj hjn) (fun k ok hk hki hun' hno => ?_) (ready_mono hr (Ne.symm hji)) h3.1 ?_) h2
      · refine hfree k ok hk hki ?_ hno
        by_cases hjk : j = k
        · subst hjk; exact hjun
        · rw [getD_set_ne true hjk] at hun'; exact hun'
      · rw [Array.setIfInBounds_comm _ _ hji]; exact h3.2
theorem HeadQ.lex {n g : Nat} {Lq : Act → Prop} (hsel : Region.noSelect ops = true) (hs : Region.sinkB md ops n = true) (hc : Region.chainB md ops n = true) (hn : n < ops.size) :
    ∀ (l : List Oper) (k : Nat) (up : Array Bool) (a : Act), (∀ j, j < l.length → l[j]? = ops[k + j]?) → k + l.length = n → HeadInv md ops n up → Region.lexHead md ops g l.length k up = true → wpQuiet P ops C Lq l a →
      HeadQ P md ops C n (fun up' a' => Region.seqB md ops g n up' = true ∧ Lq a') l.length up a
  | [], k, up, a, _, hk, _, hB, h => by
    obtain rfl : k = n := by simpa using hk
    exact ⟨by simpa [Region.lexHead] using hB, h⟩
  | o :: l, k, up, a, hl, hk, inv, hB, h => by
    have h0 : ops[k]? = some o := by simpa using (hl 0 (by simp)).symm
    simp only [List.length_cons, Region.lexHead, Bool.and_eq_true] at hB
    obtain ⟨⟨hr, hf⟩, hB'⟩ := hB
    have hkn : k < n := by simp only [List.length_cons] at hk; omega
    have hr' : k ∈ Region.ready md ops up := by simpa using hr
    have hst : qOp P ops C k (wpQuiet P ops C Lq l) a := by unfold qOp; simp only [h0]; exact h
    obtain ⟨v, hy, hK⟩ := yieldsIn_of_qOp h0 hst
    exact HeadQ.first h0 (Region.noSelect_spec hsel) hs hc hn hkn (fun up' a' hL => seqB_ready hL.1) l.length up a inv (Region.free_spec h0 hf) hr' hy
      (HeadQ.lex hsel hs hc hn l (k + 1) _ _ (fun j hj => by have := hl (j + 1) (by simp; omega); simpa [Nat.add_assoc, Nat.add_comm 1 j] using this) (by simp only [List.length_cons] at hk; omega) (inv.set hr' hkn) hB' hK)
theorem region_tail {id : Nat} {Q : Exit → Act → World → Prop} {a : Act} {w : World} {l : List Oper} (C : World → Prop) (n : Nat) (hm : P.follows .mixedOrders = true) (hB : Region.lexTailB .any l.toArray n = true) (hC : C w.drew)
    (h : wpQuiet P l.toArray C (fun a' => ∀ w', C w' → wpList P l.toArray Q (l.drop n) a' w') (l.take n) a) : (Code.region id l.toArray true).wp P Q a w := by
  simp only [Region.lexTailB, Bool.and_eq_true, decide_eq_true_eq] at hB
  obtain ⟨⟨⟨⟨hsel, hn⟩, hs⟩, hc⟩, hlex⟩ := hB
  have htl : (l.take n).length = n := by simp at hn ⊢; omega
  have hdl : (l.drop n).length = l.toArray.size - n := by simp
  have inv0 : HeadInv .any l.toArray n (Array.replicate l.toArray.size false) :=
    ⟨by simp, fun j oj _ hl => (by rw [getD_replicate_false] at hl; cases hl), fun t _ ht => getD_in (by simpa using ht) (getD_replicate_false _ _)⟩
  have H := HeadQ.lex (md := .any) (g := l.toArray.size - n) hsel hs hc hn (l.take n) 0 _ a (fun j hj => by
    have hj' : j < n := by rw [htl] at hj; exact hj
    simp [hj']) (by simpa using htl) inv0 (by rw [htl]; exact hlex) h
  refine wp_region_any hm ?_
  have := HeadQ.any (C := C) (Q := Q) (g := l.toArray.size - n) (fun up a' w' hC' hL => by
    have := wpAny_of_seq (md := .any) (Q' := Q) (l.drop n) n up a' w' (fun j => by simp [List.getElem?_drop]) (by rw [hdl]; exact hL.1) (hL.2 w' hC')
    rwa [hdl] at this) _ _ _ w.drew hC H
  rw [htl, show n + (l.toArray.size - n) = l.toArray.size by omega] at this
  exact this
theorem region_all {id : Nat} {Q : Exit → Act → World → Prop} {a : Act} {w : World} {l : List Oper} (C : World → Prop) (hm : P.follows .mixedOrders = true) (hB : Region.lexB .any l.toArray = true) (hC : C w.drew)
    (h : wpQuiet P l.toArray C (fun a' => ∀ w', C w' → Q .normal a' w') l a) : (Code.region id l.toArray true).wp P Q a w :=
  wp_region_quiet (C := C) hm hB hC (by simpa using h)
end
theorem quiet_op {P : Program} {ops : Array Oper} {C : World → Prop} {Q : Act → Prop} {a : Act} {o : Oper} {rest : List Oper} (v : Value) (hw : Region.wanted o (yielded ops a.tmps) = true)
    (hv : ∀ w, C w → o.quietAt P a C w v) (h : wpQuiet P ops C Q rest (a.put o.dst v)) : wpQuiet P ops C Q (o :: rest) a := by
  show if _ then _ else _
  rw [if_pos hw]
  exact ⟨v, hv, h⟩
structure In (S : World → Prop) where
  w : World
  h : S w
theorem in_of {P : Program} {f : FuncId} {args : Array Value} {v : Value} {S : World → Prop} (hS : ∀ X Y, S X → Below X.heap.size X Y → S Y) {p : In S}
    (h : Calls P f args p.w fun e w' => e = .returned v ∧ Below p.w.heap.size p.w w') : Calls P f args p.w fun e w'' => e = .returned v ∧ ∃ q : In S, w'' = q.w :=
  h.mono fun _ w' ⟨he, hb⟩ => ⟨he, ⟨w', hS _ _ p.h hb⟩, rfl⟩
theorem in_belowB {P : Program} {f : FuncId} {args : Array Value} {v : Value} {W : World} {p : In (Below W.heap.size W)}
    (h : Calls P f args p.w fun e w' => e = .returned v ∧ Below p.w.heap.size p.w w') : Calls P f args p.w fun e w'' => e = .returned v ∧ ∃ q : In (Below W.heap.size W), w'' = q.w :=
  in_of (fun _ _ hX hb => hX.trans (hb.mono hX.size)) h
section
variable {P : Program} {ops : Array Oper} {md : Region.Mode} {C : World → Prop} {l n : Nat}
def noDefer (ops : Array Oper) : Bool := ops.all fun o => match o.op with | .defer _ => false | _ => true
theorem noDefer_spec {i : Nat} {o : Oper} (h : noDefer ops = true) (ho : ops[i]? = some o) : ∀ c, o.op ≠ .defer c := by
  intro c hc
  obtain ⟨hi, rfl⟩ := Array.getElem?_eq_some_iff.1 ho
  have h2 := Array.all_eq_true.1 h i hi
  rw [hc] at h2
  cases h2
theorem Oper.round_of_quiet {o : Oper} {a : Act} {K : Act → Prop} {K' : Act → World → Prop} {Q : Exit → Act → World → Prop} {w : World} (hd : ∀ c, o.op ≠ .defer c) (hw : C w) (h : ∀ a w', C w' → K a → K' a w') (hh : o.quiet P a C K) :
    o.wpIn (Fence.wide.inRound l) n P a w K' Q := by
  obtain ⟨v, h1, h2⟩ := hh
  have h3 := h1 w hw
  refine ⟨fun _ _ => trivial, ?_⟩
  show o.uponIn (Fence.wide.inRound l) n P a K' Q ((o.semAt (some l) a.eval).run P w)
  rw [Oper.semAt_some l _ _ hd]
  unfold Oper.quietAt at h3
  generalize (execOp a.eval o).run P w = r at *
  cases r with
  | ok m w' =>
    cases m <;> simp only [Oper.quietUpon] at h3
    case value u =>
      obtain ⟨e1, e2⟩ := h3
      rw [e1, e2]
      exact h _ _ hw h2
    case skip =>
      obtain ⟨e1, e2⟩ := h3
      subst e2
      rw [e1]
      exact h _ _ hw h2
    case enter f args =>
      obtain ⟨e1, hc⟩ := h3
      rw [e1]
      refine ⟨fun hx => (by cases hx), CallsIn.inRound l (callsIn_wide.2 (hc.mono fun e w'' ⟨he, hw''⟩ => ?_))⟩
      subst he
      exact h _ _ hw'' h2
  | halt x w' => simp only [Oper.quietUpon] at h3
theorem round_of_qOp {i : Nat} {a : Act} {K : Act → Prop} {K' : Act → World → Prop} {Q : Exit → Act → World → Prop} {w : World} (hn : noDefer ops = true) (hC : C w) (h : ∀ a w', C w' → K a → K' a w') (hh : qOp P ops C i K a) :
    wpOpIn (Fence.wide.inRound l) n P ops Q i K' a w := by
  unfold qOp at hh
  unfold wpOpIn
  split
  · rename_i ho; simp only [ho] at hh; exact h _ _ hC hh
  · rename_i o ho
    simp only [ho] at hh
    split
    · rename_i hw; simp only [hw, if_true] at hh; exact Oper.round_of_quiet (noDefer_spec hn ho) hC h hh
    · rename_i hw; simp only [hw] at hh; exact ⟨fun _ _ => trivial, h _ _ hC hh⟩
theorem HeadQ.round {m g : Nat} {L : Array Bool → Act → Prop} {Q : Exit → Act → World → Prop} (hn : noDefer ops = true) (hL : ∀ up a w, C w → L up a → wpAnyIn (Fence.wide.inRound l) n P md ops Q g up a w) :
    ∀ (f : Nat) (up : Array Bool) (a : Act) (w : World), C w → HeadQ P md ops C m L f up a → wpAnyIn (Fence.wide.inRound l) n P md ops Q (f + g) up a w
  | 0, up, a, w, hC, h => by rw [Nat.zero_add]; exact hL _ _ _ hC h
  | f + 1, up, a, w, hC, h => by
    rw [show f + 1 + g = (f + g) + 1 by omega]
    exact ⟨fun h0 => absurd h0 h.1, fun i hi => round_of_qOp hn hC (fun a' w' hC' h' => HeadQ.round hn hL f _ a' w' hC' h') (h.2 i hi).2⟩
theorem any_of_seq {Q : Exit → Act → World → Prop} {F : Fence} : ∀ (t : List Oper) (k : Nat) (up : Array Bool) (a : Act) (w : World), (∀ j, t[j]? = ops[k + j]?) →
    Region.seqB md ops t.length k up = true → wpListIn F n P ops Q t a w → wpAnyIn F n P md ops Q t.length up a w
  | [], k, up, a, w, _, hB, h => ⟨by simpa [Region.seqB] using hB, h⟩
  | o :: t, k, up, a, w, hl, hB, h => by
    have h0 : ops[k]? = some o := by simpa using (hl 0).symm
    simp only [List.length_cons, Region.seqB, Bool.and_eq_true, decide_eq_true_eq] at hB
    refine ⟨fun h1 => (by rw [hB.1] at h1; cases h1), fun i hi => ?_⟩
    rw [hB.1] at hi
    obtain rfl : i = k := by simpa using hi
    have hw : wpOpIn F n P ops Q i (wpListIn F n P ops Q t) a w := by unfold wpOpIn; simp only [h0]; exact h
    exact wpOpIn_mono (fun a' w' h' => any_of_seq t (i + 1) _ a' w' (fun j => by have := hl (j + 1); simpa [Nat.add_assoc, Nat.add_comm 1 j] using this) hB.2 h') hw
theorem round_of_quiet {Qa : Act → Prop} {Q : Exit → Act → World → Prop} (hn : noDefer ops = true) (hQ : ∀ a w, C w → Qa a → Q .normal a w) : ∀ (fuel : Nat) (up : Array Bool) (a : Act) (w : World), C w →
    wpAnyQ P md ops C Qa fuel up a → wpAnyIn (Fence.wide.inRound l) n P md ops Q fuel up a w
  | 0, _, _, _, hw, h => ⟨h.1, hQ _ _ hw h.2⟩
  | fuel + 1, _, _, _, hw, h => ⟨fun h0 => hQ _ _ hw (h.1 h0), fun i hi => round_of_qOp hn hw (fun a' w' hw' => round_of_quiet hn hQ fuel _ a' w' hw') (h.2 i hi)⟩
end
end Go.Proofs.Ytcfinlmocgbnbaa.XB
end
section
set_option linter.unusedVariables false
namespace Go.Proofs.Ytcfinlmocgbnbaa.XB
open Go.RowKit Go.Shelf Go.Proofs.YtcfinlmocgbnbaaW.PrintWords
attribute [local go_sem] Oper.semAt_some
variable {F : Fence} {n : Nat} {P : Program}
theorem assign_two (l r1 r2 d1 d2 p1 p2 t1 t2 : Nat) (pos1 pos2 : String) (v1 v2 : Value) (tmps : Array Value) (W : World) (K : Act → World → Prop) (hp1 : p1 < tmps.size) (hp2 : p2 < tmps.size) (h12 : p1 ≠ p2) (hd : d1 ≠ p2)
    (hK : K { tmps := (((tmps.setIfInBounds p1 v1).setIfInBounds p2 v2).setIfInBounds d1 v1).setIfInBounds d2 v2, defers := [] } W) :
    ((Code.region r1 #[{ dst := some d1, op := Op.assign (Operand.tmp p1), type := t1, pos := pos1, after := #[], guard := none }] false).seq (Code.region r2 #[{ dst := some d2, op := Op.assign (Operand.tmp p2), type := t2, pos := pos2, after := #[], guard := none }] false)).wpIn (F.inRound l) n P (Exit.then K (fun _ _ _ => False)) { tmps := (#[p1, p2].zip #[v1, v2]).foldl (fun t (p, v) => t.setIfInBounds p v) tmps, defers := [] } W := by
  have e : (#[p1, p2].zip #[v1, v2]).foldl (fun t (p, v) => t.setIfInBounds p v) tmps = (tmps.setIfInBounds p1 v1).setIfInBounds p2 v2 := by
    have hz : #[p1, p2].zip #[v1, v2] = #[(p1, v1), (p2, v2)] := by rw [← Array.toList_inj, Array.toList_zip]; rfl
    rw [hz]; simp
  rw [e]
  have hv : (((tmps.setIfInBounds p1 v1).setIfInBounds p2 v2).getD p1 undef) = v1 := by
    simp [h12.symm, hp1]
  have hv2 : ((((tmps.setIfInBounds p1 v1).setIfInBounds p2 v2).setIfInBounds d1 v1).getD p2 undef) = v2 := by
    simp [hd, hp2]
  generalize (tmps.setIfInBounds p1 v1).setIfInBounds p2 v2 = T at *
  have hv' : (T[p1]?).getD undef = v1 := by simpa using hv
  have hv2' : ((T.setIfInBounds d1 v1)[p2]?).getD undef = v2 := by simpa using hv2
  gi_wp2
  exact hK
theorem wp_range2 {g : Operand} {p1 p2 d1 d2 r1 r2 ty1 ty2 : Nat} {pos1 pos2 : String} {body : Code} {Q : Exit → Act → World → Prop} {tmps : Array Value} {w : World}
    (hn : 1 ≤ n) {gf : Nat} {lb : Array Value} (hg : ({ tmps := tmps, defers := [] } : Act).eval g = .func (.func gf) #[] lb) (eg : ∀ args w, (callFunc gf args).run P w = .ok (.enter gf args) w)
    (v1 v2 : Nat → Value) (N : Nat) {Start : World → Prop} {Tch Kp : World → World → Prop} (hseq : IterSeq Fence.wide (n - 1) P gf lb (fun k => #[v1 k, v2 k]) N Start Tch Kp)
    (hStart : OwnW w.heap.size Start) (hs0 : Start w) (hT : ∀ A B, Tch A B → KeepsFrom w.heap.size A B)
    (hKt : ∀ {A B C : World}, Kp A B → Kp B C → Kp A C) (hKb : ∀ (W : World) (l : Nat) (o o' : Obj), w.heap.size ≤ l → W.heap[l]? = some o → o.isCells = false → Kp W (W.putObj l o')) (hp1 : p1 < tmps.size) (hp2 : p2 < tmps.size) (h12 : p1 ≠ p2) (hd : d1 ≠ p2)
    (I : Nat → World → Prop) (Ix : Code → Nat → World → Prop) (hI : ∀ k, OwnW w.heap.size (I k)) (hIx : ∀ c k, OwnW w.heap.size (Ix c k))
    (hIT : ∀ k A B, I k A → Tch A B → I k B) (hIxT : ∀ c k A B, Ix c k A → Tch A B → Ix c k B) (h0 : I 0 w)
    (hbody : ∀ (l k : Nat) (W : World), I k W → k < N → body.wpIn (Fence.wide.inRound l) (n - 1 - 1) P (seqPost w.heap.size Kp I Ix (k + 1) W) { tmps := (((tmps.setIfInBounds p1 (v1 k)).setIfInBounds p2 (v2 k)).setIfInBounds d1 (v1 k)).setIfInBounds d2 (v2 k), defers := [] } W)
    (hdone : ∀ (D : Nat) (W : World), w.heap.size ≤ D → I N W → W.heap[D]? = some (.deferred (some [])) → Q .normal { tmps := tmps, defers := [{ target := .collected D, args := #[] }] } W)
    (hstop : ∀ (D : Nat) (c : Code) (k : Nat) (W : World), w.heap.size ≤ D → k ≤ N → Ix c k W → W.heap[D]? = some (.deferred (some [])) → c.wp P Q { tmps := tmps, defers := [{ target := .collected D, args := #[] }] } W) :
    (Code.rangeFunc g #[p1, p2] ((Code.region r1 #[{ dst := some d1, op := Op.assign (Operand.tmp p1), type := ty1, pos := pos1, after := #[], guard := none }] false).seq (Code.region r2 #[{ dst := some d2, op := Op.assign (Operand.tmp p2), type := ty2, pos := pos2, after := #[], guard := none }] false)) body).wp P Q { tmps := tmps, defers := [] } w :=
  wpIn_wide.1 (wpIn_rangeFunc_seq (n := n) rfl hn hg trivial eg hseq hStart hs0 hT hKt hKb (fun _ => rfl) I Ix hI hIx hIT hIxT h0
    (fun k => { tmps := (((tmps.setIfInBounds p1 (v1 k)).setIfInBounds p2 (v2 k)).setIfInBounds d1 (v1 k)).setIfInBounds d2 (v2 k), defers := [] })
    (fun l k W K hK => assign_two l r1 r2 d1 d2 p1 p2 ty1 ty2 pos1 pos2 (v1 k) (v2 k) tmps W K hp1 hp2 h12 hd hK) hbody hdone (fun D c k W h1 h2 h3 h4 => wpIn_wide.2 (hstop D c k W h1 h2 h3 h4)))
end Go.Proofs.Ytcfinlmocgbnbaa.XB
end
section
namespace Go.Proofs.Ytcfinlmocgbnbaa.Pr
open Go.RowKit Go.Shelf Go.Proofs.Ytcfinlmocgbnbaa.XB Go.Proofs.YtcfinlmocgbnbaaW.PrintWords
attribute [local go_sem] Oper.semAt_some
set_option linter.unusedVariables false
set_option linter.unusedSimpArgs false
structure Fits (su : List ByteArray) (so : List S24) : Prop where
  blk : ∀ m ∈ so, 0 ≤ m.f1 ∧ m.f1 < su.length
  byt : ∀ m ∈ so, m.f2.size = 64
  sur : ∀ s ∈ su, s.size = 64
theorem rdS_size {su : List ByteArray} (h : ∀ s ∈ su, s.size = 64) {b : Int} (h0 : 0 ≤ b) (h1 : b < su.length) : (rdOf ByteArray.empty su b).size = 64 := by
  obtain ⟨k, rfl⟩ : ∃ k : Nat, b = k := ⟨b.toNat, by omega⟩
  rw [rdS_get (by omega)]
  exact h _ (List.getElem_mem _)
theorem put1_len (su : List ByteArray) (m : S24) (n : Int) : (put1 su m n).length = su.length := by simp [put1]
theorem put1_sur {su : List ByteArray} {m : S24} {n : Int} (h : ∀ s ∈ su, s.size = 64) (hb : 0 ≤ m.f1 ∧ m.f1 < su.length) (hm : m.f2.size = 64) (h0 : 0 ≤ n) (h1 : n ≤ 64) : ∀ s ∈ put1 su m n, s.size = 64 := by
  intro s hs
  unfold put1 at hs
  rcases List.mem_or_eq_of_mem_set hs with hs | rfl
  · exact h s hs
  · rw [ByteArray.size_append, ByteArray.size_extract, ByteArray.size_extract, rdS_size h hb.1 hb.2, hm]
    omega
theorem fall_len : ∀ (so : List S24) (su : List ByteArray) (cut : Nat → Int) (i : Nat), (fall su so cut i).length = su.length
  | [], su, cut, i => rfl
  | m :: so, su, cut, i => by rw [fall, fall_len so, put1_len]
theorem fall_snoc : ∀ (so : List S24) (su : List ByteArray) (m : S24) (cut : Nat → Int) (i : Nat), fall su (so ++ [m]) cut i = put1 (fall su so cut i) m (cut (i + so.length))
  | [], su, m, cut, i => rfl
  | x :: so, su, m, cut, i => by
    show fall (put1 su x (cut i)) (so ++ [m]) cut (i + 1) = put1 (fall (put1 su x (cut i)) so cut (i + 1)) m _
    rw [fall_snoc so, show i + 1 + so.length = i + (x :: so).length by simp only [List.length_cons]; omega]
theorem fall_sur : ∀ (so : List S24) (su : List ByteArray) (cut : Nat → Int) (i : Nat), Fits su so → (∀ j, 0 ≤ cut j ∧ cut j ≤ 64) → ∀ s ∈ fall su so cut i, s.size = 64
  | [], su, cut, i, h, _ => h.sur
  | m :: so, su, cut, i, h, hc => by
    have hb := h.blk m (by simp)
    refine fall_sur so _ cut (i + 1) ⟨fun x hx => ?_, fun x hx => h.byt x (by simp [hx]), put1_sur h.sur hb (h.byt m (by simp)) (hc i).1 (hc i).2⟩ hc
    rw [put1_len]
    exact h.blk x (by simp [hx])
def upto (su : List ByteArray) (so : List S24) (cut : Nat → Int) (i : Nat) : List ByteArray := fall su (so.take i) cut 0
theorem upto_next {su : List ByteArray} {so : List S24} {cut : Nat → Int} {i : Nat} (h : i < so.length) : upto su so cut (i + 1) = put1 (upto su so cut i) (rd_T24 so i) (cut i) := by
  unfold upto
  rw [List.take_add_one, List.getElem?_eq_getElem h, rd24_get h]
  show fall su (so.take i ++ [so[i]]) cut 0 = _
  rw [fall_snoc]
  congr 2
  simp only [List.length_take]
  omega
set_option maxRecDepth 100000 in
set_option maxHeartbeats 4000000 in
theorem settle_calls (pf : Nat) (lb : Array Value) (cut : Nat → Int) (A0 : Option Addr) (c0 : Nat) (su : List ByteArray) (A1 : Option Addr) (c1 : Nat) (so : List S24) (w : World)
    (hr0 : Kd.C Kd.string w A0 su.length su) (hc0 : su.length ≤ c0) (hr1 : Kd.C k24 w A1 so.length so) (hc1 : so.length ≤ c1) (hsu : su.length < 8796093022208) (hso : so.length ≤ 9223372036854775807)
    (hf : Fits su so) (hcut : ∀ i, 0 ≤ cut i ∧ cut i ≤ 64)
    (epf : ∀ args w, (callFunc pf args).run Try.prog w = .ok (.enter pf args) w)
    (hp : ∀ (i : Nat) (W : World), i < so.length → Below w.heap.size w W → Calls Try.prog pf (#[.int .i64 i] ++ lb) W fun e W' => e = .returned (.int .i64 (cut i)) ∧ Below W.heap.size W W') :
    Calls Try.prog 51 #[.agg #[.slice A0 su.length c0, .slice A1 so.length c1], .func (.func pf) #[] lb] w fun e w' => ∃ v0 v1, e = .returned (.agg #[v0, v1]) ∧ Kd.R Kd.string 9 w' w.heap.size (fun _ => True) v0 (fall su so cut 0) ∧ Kd.R k24 24 w' w.heap.size (fun _ => True) v1 [] ∧ Below w.heap.size w w' := by
  have HR0 := Lib.hid hr0
  have HR1 := Lib.hid hr1
  have HP := Lib.hid hp
  have HCUT := Lib.hid hcut
  have HF := Lib.hid hf
  clear hr0 hr1 hp hcut hf
  go_enter Try.func51, Try.ntmps51
  go_wp2_with fail
  generalize hU : World.alloc (World.alloc w _) _ = U
  have B1 : U.heap[w.heap.size]? = some (.cells #[.slice A0 su.length c0, .slice A1 so.length c1] 30 (0, 0)) := by rw [← hU]; exact heap_alloc2_old w _ _
  have B2 : U.heap[w.heap.size + 1]? = some (.cells #[.slice none 0 0, .slice none 0 0] 30 (0, 0)) := by rw [← hU]; exact heap_alloc2_new w _ _
  have HB : Below w.heap.size w U := by rw [← hU]; exact below_alloc (below_alloc (Below.refl w.heap.size w) _) _
  clear hU
  refine (slices_Clone_string_string.calls A0 c0 su su U (Kd.C_below HR0.out HB) hc0 (by unfold slices_Clone_string_string.f; rw [if_pos hsu])).mono ?_
  rintro e W1 ⟨v5, rfl, ho, hb⟩
  have B1' := blk_same B1 hb
  have B2' := blk_same B2 hb
  have HB' := HB.trans (hb.mono HB.size)
  have ho' : Kd.R Kd.string 9 W1 w.heap.size (fun _ => True) v5 (upto su so cut 0) := Kd.R_lower ho HB.size
  have c1' := (blk_cell B1' 1).trans rfl
  have HB1 := Lib.hid B1'
  have HB2 := Lib.hid B2'
  have HBB := Lib.hid HB'
  have HO := Lib.hid ho'
  clear B1 B2 HB hb ho B1' B2' HB' ho' U HR0
  go_wp2
  clear c1'
  go_loopw [15] (fun v15 X => ∃ i : Nat, i ≤ so.length ∧ v15 = .int .i64 i ∧ X.heap[w.heap.size]? = some (.cells #[.slice A0 su.length c0, .slice A1 so.length c1] 30 (0, 0)) ∧ X.heap[w.heap.size + 1]? = some (.cells #[.slice none 0 0, .slice none 0 0] 30 (0, 0)) ∧ Kd.R Kd.string 9 X w.heap.size (fun _ => True) v5 (upto su so cut i) ∧ Below w.heap.size w X)
    (fun v15 _ => so.length - (intOf v15).toNat)
  case atStart => exact ⟨0, by omega, rfl, HB1.out, HB2.out, HO.out, HBB.out⟩
  case round =>
    obtain ⟨i, hi, rfl, hb1, hb2, hR, hB⟩ := hrel
    clear HB1 HB2 HO HBB W1
    have hl : (upto su so cut i).length = su.length := fall_len _ _ _ _
    by_cases hlt : i < so.length
    · obtain ⟨ad, rfl, r0, r1, r2⟩ := at_T24 HR1.out (i : Int) (by omega) (by omega)
      have q0 := (hB.cell (World.block_lt_of_cell? w _ r0)).trans r0
      have q1 := (hB.cell (World.block_lt_of_cell? w _ r1)).trans r1
      have q2 := (hB.cell (World.block_lt_of_cell? w _ r2)).trans r2
      simp only [Int.toNat_natCast] at q0 q1 q2
      clear r0 r1 r2
      have hmem : rd_T24 so i ∈ so := by rw [rd24_get hlt]; exact List.getElem_mem _
      have hbk := HF.out.blk _ hmem
      have hby := HF.out.byt _ hmem
      have HNX := Lib.hid (upto_next (su := su) (cut := cut) hlt)
      have hsz := rdS_size (fall_sur (so.take i) su cut 0 ⟨fun m hm => HF.out.blk m (List.mem_of_mem_take hm), fun m hm => HF.out.byt m (List.mem_of_mem_take hm), HF.out.sur⟩ HCUT.out) (b := (rd_T24 so i).f1) hbk.1 (by rw [fall_len]; exact hbk.2)
      have hct := HCUT.out i
      generalize rd_T24 so i = m at *
      change (rdOf ByteArray.empty (upto su so cut i) m.f1).size = 64 at hsz
      obtain ⟨g, cap, hv5, hg0, hg1, cells, hcells⟩ := Kd.R_form hR (by omega)
      have hv5' := hv5
      rw [hl] at hv5'
      rw [hv5] at hR
      obtain ⟨rc, rf⟩ := Kd.R_cell (enc := Value.string) (h1 := fun _ => rfl) ByteArray.empty hR m.f1 hbk.1 (by omega)
      subst hv5'
      have HR := Lib.hid hR
      have HB := Lib.hid hB
      have HB1 := Lib.hid hb1
      have HB2 := Lib.hid hb2
      have HL := Lib.hid hl
      clear hR hB hb1 hb2 hv5 hcells hmem hl
      go_wp2_with fail
      generalize hX : World.alloc wr _ = X3
      have HX3 := Lib.hid (show Below wr.heap.size wr X3 by rw [← hX]; exact below_alloc (Below.refl _ _) _)
      have g7 : X3.heap[wr.heap.size]? = some (.cells #[.bool m.f0, .int .i64 m.f1, .string m.f2] 24 (0, 0)) := by rw [← hX]; exact heap_alloc_new wr _
      clear hX
      refine (HP.out i X3 hlt (HB.out.trans (HX3.out.mono HB.out.size))).mono ?_
      rintro e W4 ⟨rfl, hb⟩
      have g7' := blk_same g7 hb
      have HX4 := Lib.hid (HX3.out.trans (hb.mono HX3.out.size))
      have HR4 := Lib.hid (Kd.R_below HR.out HX4.out)
      have HG7 := Lib.hid g7'
      clear g7 hb g7' q0 q1 q2 rc rf
      go_wp2_with fail
      have d1 : ∀ p : XB.In (Below W4.heap.size W4), p.w.cell? ⟨wr.heap.size, 1, none⟩ = some (.int .i64 m.f1) := fun p => (blk_cell (blk_same HG7.out p.h) 1).trans rfl
      have d2 : ∀ p : XB.In (Below W4.heap.size W4), p.w.cell? ⟨wr.heap.size, 2, none⟩ = some (.string m.f2) := fun p => (blk_cell (blk_same HG7.out p.h) 2).trans rfl
      have d3 : ∀ p : XB.In (Below W4.heap.size W4), p.w.cell? ⟨g, m.f1.toNat, none⟩ = some (.string (rdOf ByteArray.empty (upto su so cut i) m.f1)) := fun p => (Kd.R_cell (enc := Value.string) (h1 := fun _ => rfl) ByteArray.empty (Kd.R_below HR4.out p.h) m.f1 hbk.1 (by rw [HL.out]; exact hbk.2)).1
      obtain ⟨hk0, hk1⟩ := hbk
      obtain ⟨hct0, hct1⟩ := hct
      have hs1 : cut i ≤ (m.f2.size : Int) := by omega
      have hs2 : cut i ≤ ((rdOf ByteArray.empty (upto su so cut i) m.f1).size : Int) := by omega
      haveI hne : Nonempty (XB.In (Below W4.heap.size W4)) := ⟨⟨W4.drew, below_drew1 (Below.refl _ _)⟩⟩
      refine XB.region_tail (fun w' => ∃ p : XB.In (Below W4.heap.size W4), w' = p.w) 16 (by kernel_rfl) (by kernel_rfl) ⟨⟨W4.drew, below_drew1 (Below.refl _ _)⟩, rfl⟩ ?_
      simp only [List.take_succ_cons, List.take_zero, List.drop_succ_cons, List.drop_zero]
      iterate 16 quiet_step (fail)
      refine wpQuiet_nil ?_
      rintro Y ⟨⟨_, hY⟩, rfl⟩
      have HRY := Lib.hid (Kd.R_below HR4.out hY)
      have HXY := Lib.hid (HX4.out.trans (hY.mono HX4.out.size))
      obtain ⟨rc, rf⟩ := Kd.R_cell (enc := Value.string) (h1 := fun _ => rfl) ByteArray.empty HRY.out m.f1 hk0 (by rw [HL.out]; exact hk1)
      clear hY d1 d2 d3 hne
      go_wp2
      have P := Kd.R_put (enc := Value.string) (h1 := fun _ => rfl) HRY.out m.f1 (m.f2.extract 0 (cut i).toNat ++ (rdOf ByteArray.empty (upto su so cut i) m.f1).extract (cut i).toNat 64)
      have hB' := HB.out.trans (HXY.out.mono HB.out.size)
      have y1 := blk_same HB1.out HXY.out
      have y2 := blk_same HB2.out HXY.out
      have n1 : w.heap.size ≠ g := fun e => Kd.R_ne HRY.out y1 (by decide) (by rw [e]; rfl)
      have n2 : w.heap.size + 1 ≠ g := fun e => Kd.R_ne HRY.out y2 (by decide) (by rw [e]; rfl)
      go_roundw
      case rel =>
        refine ⟨i + 1, by omega, by simp, blk_far y1 n1 _, blk_far y2 n2 _, ?_, hB'.setCell hg0 _⟩
        rw [HNX.out, ← HL.out]
        unfold put1
        rw [hsz]
        exact P.1
      case measure => simp [intOf]; omega
    · obtain rfl : i = so.length := by omega
      have c2a : wr.cell? ⟨w.heap.size + 1, 0, none⟩ = some (.slice none 0 0) := (blk_cell hb2 0).trans rfl
      have c2b : wr.cell? ⟨w.heap.size + 1, 1, none⟩ = some (.slice none 0 0) := (blk_cell hb2 1).trans rfl
      have f2a := blk_frozen hb2 0
      have f2b := blk_frozen hb2 1
      have hfin : upto su so cut so.length = fall su so cut 0 := by unfold upto; rw [List.take_length]
      rw [hfin] at hR
      obtain ⟨Ao, co, hv⟩ := Kd.R_slice hR
      subst hv
      have HR := Lib.hid hR
      have HB := Lib.hid hB
      have HB2 := Lib.hid hb2
      clear hR hB hb2 hb1 hl hfin
      go_wp2
      have X := XB.put21 (XB.put20 HB2.out (.slice Ao (fall su so cut 0).length co)) (.slice none 0 0)
      refine bodyPost_ret (results_cell_row rfl _ _ (w.heap.size + 1) 30 #[.slice Ao (fall su so cut 0).length co, .slice none 0 0] (0, 0) _ rfl X Try.underlying30 rfl (by kernel_rfl)) rfl ?_
      exact ⟨_, _, rfl, Kd.R_set (Kd.R_set HR.out HB2.out (by decide) 0 _) (XB.put20 HB2.out (.slice Ao (fall su so cut 0).length co)) (by decide) 1 _, Kd.R_nil _ _ _ _ _, (HB.out.setCell (by show w.heap.size ≤ w.heap.size + 1; omega) _).setCell (by show w.heap.size ≤ w.heap.size + 1; omega) _⟩
end Go.Proofs.Ytcfinlmocgbnbaa.Pr
end
section
namespace Go.Proofs.Ytcfinlmocgbnbaa.Pr
open Go.Proofs.Ytcfinlmocgbnbaa.Sq Go.RowKit Go.Proofs.YtcfinlmocgbnbaaW.PrintWords Go.Proofs.YtcfinlmocgbnbaaW.PrintLast Go.Proofs.YtcfinlmocgbnbaaW.PrintMore
attribute [local go_sem] max2_int min2_int max_two min_two max_three min_three max_four min_four
set_option linter.unusedVariables false
set_option linter.unusedSimpArgs false
def disk_own.f (l0_0 : List ByteArray) (l0_1 : List (S24)) : Option (List ByteArray × (List (S24))) := (slices_Clone_string_string.f l0_0).bind fun tz3 => ((api_Move_77.f l0_1).bind fun tz6 => (some (tz3, tz6)))
def disk_own.T1 : Bool × List (List Nat × List Nat) := (true, [([], []), ([0], [0]), ([1], [1]), ([], []), ([3], [3]), ([4, 2], [4]), ([2, 5], [2, 5]), ([6, 5, 0, 1, 2, 3, 4, 5, 6], [6])])
def disk_own.B1 : List Nat := [0, 1, 3, 0, 8, 31, 63, 127]
theorem disk_own.tab1 : rtab .any (opsOf Try.f50 1) = disk_own.T1 := by kernel_rfl
theorem disk_own.bits1 : waitsOk disk_own.T1.2 disk_own.B1 = true := by kernel_rfl
set_option maxHeartbeats 8000000 in
set_option maxRecDepth 100000 in
theorem disk_own.calls (A0_0 : Option Addr) (c0_0 : Nat) (l0_0 : List ByteArray) (A0_1 : Option Addr) (c0_1 : Nat) (l0_1 : List (S24)) (r1 : List ByteArray) (r2 : List (S24)) (w : World) (hr0_0 : Kd.C Kd.string w A0_0 l0_0.length l0_0) (hc0_0 : l0_0.length ≤ c0_0) (hr0_1 : Kd.C k24 w A0_1 l0_1.length l0_1) (hc0_1 : l0_1.length ≤ c0_1) (h : disk_own.f l0_0 l0_1 = some (r1, r2)) :
  Calls Try.prog 50 #[.agg #[.slice A0_0 l0_0.length c0_0, .slice A0_1 l0_1.length c0_1]] w fun e w' => ∃ v0_ v1_ : Value, e = .returned (.agg #[v0_, v1_]) ∧ Kd.R Kd.string 9 w' w.heap.size (fun _ => True) v0_ r1 ∧ Kd.R k24 24 w' w.heap.size (fun _ => True) v1_ r2 ∧ Below w.heap.size w w' := by
 have hu30 := Try.underlying30
 have HR0_0 := am hr0_0
 have HC0_0 := am hc0_0
 clear hr0_0 hc0_0
 have HR0_1 := am hr0_1
 have HC0_1 := am hc0_1
 clear hr0_1 hc0_1
 have HB := am (Below.refl w.heap.size w)
 have H : ((slices_Clone_string_string.f l0_0).bind fun tz3 => ((api_Move_77.f l0_1).bind fun tz6 => (some (tz3, tz6)))) = some (r1, r2) := h
 clear h
 replace H := ob_ H
 obtain ⟨tz3, A20, H⟩ := H
 replace H : ((api_Move_77.f l0_1).bind fun tz6 => (some (tz3, tz6))) = some (r1, r2) := H
 have A2 := Aside0.mk A20
 clear A20
 replace H := ob_ H
 obtain ⟨tz6, A30, H⟩ := H
 replace H : (some (tz3, tz6)) = some (r1, r2) := H
 have A3 := Aside0.mk A30
 clear A30
 simp only [Option.some.injEq, Prod.mk.injEq] at H
 obtain ⟨rfl, rfl⟩ := H
 go_enter Try.func50, Try.ntmps50
 try go_wp2_with (first | ((with_reducible refine gate_dst (N := 1) rfl ?_); refine box_event ?hg (N := 1) ?hd (cs := #[.slice A0_0 l0_0.length c0_0, .slice A0_1 l0_1.length c0_1]) (t := 30) ?hr ?_; (case hd => rfl); (case hg => rfl); (case hr => first | (go_simp; done) | (go_simp; rfl)); intro gbz1 hg w4 hbox hb; have n0_ := am (below_step (pb HB) hb); have n1_ := am (hbox); have n2_ := ge_ hg (pb HB); have n3_ := ge_ hg (pb HB); clear HB; have HB := n0_; have BKz1 := n1_; have GWz1 := n2_; have GEz1 := n3_; clear n0_ n1_ n2_ n3_; clear hb hbox hg) | ((with_reducible refine gate_dst (N := 2) rfl ?_); refine box_event ?hg (N := 2) ?hd (cs := #[.slice none 0 0, .slice none 0 0]) (t := 30) ?hr ?_; (case hd => rfl); (case hg => rfl); (case hr => first | (go_simp; done) | (go_simp; rfl)); intro gbz2 hg w5 hbox hb; have n0_ := am (bkB (pk BKz1) hb); have n1_ := am (below_step (by repeat first | (with_reducible first | exact HB.out | apply ba | apply bn | apply bd | refine bs (by assumption) ?_) | exact HB.out) hb); have n2_ := am (hbox); have n3_ := ge_ hg (by repeat first | (with_reducible first | exact HB.out | apply ba | apply bn | apply bd | refine bs (by assumption) ?_) | exact HB.out); have n4_ := ge_ hg (by repeat first | (with_reducible first | exact HB.out | apply ba | apply bn | apply bd | refine bs (by assumption) ?_) | exact HB.out); have n5_ := nl_ hg BKz1; have n6_ := ng_ hg BKz1; clear BKz1; clear HB; have BKz1 := n0_; have HB := n1_; have BKz2 := n2_; have GWz2 := n3_; have GEz2 := n4_; have NBz1_z2 := n5_; have NBz2_z1 := n6_; clear n0_ n1_ n2_ n3_ n4_ n5_ n6_; clear hb hbox hg))
 have n0_ := am (bkD BKz1.out)
 have n1_ := am (bkD BKz2.out)
 have n2_ := am (below_drew1 HB.out)
 clear BKz1 BKz2 HB; have BKz1 := n0_; have BKz2 := n1_; have HB := n2_; clear n0_ n1_ n2_
 refine start_ (n := 8) (S := fun w' => w'.cell? ⟨gbz1, 0, none⟩ = some (.slice A0_0 l0_0.length c0_0) ∧ w'.cell? ⟨gbz1, 1, none⟩ = some (.slice A0_1 l0_1.length c0_1)) (ds := []) #[false, false, false, false, false, false, false, false] (by kernel_rfl) rfl rfl (bc2 BKz1) (fun hHeld => ?_); refine with_tabW disk_own.tab1 disk_own.bits1 (fun HT_ HW_ => ?_)
 generalize w5.drew = w6 at BKz1 BKz2 HB hHeld ⊢
 refine pu_ 0 (some 3) HT_ rfl rfl (.inl ⟨by rfl, by intro w'; go_simp; with_reducible rfl⟩) (by simp only [Act.put, sa_, s0_, s1_, i64_w, i32_w]; rfl) ?_
 refine pu_ 3 (some 6) HT_ rfl rfl (.inl ⟨by rfl, by intro w'; go_simp; with_reducible rfl⟩) (by simp only [Act.put, sa_, s0_, s1_, i64_w, i32_w]; rfl) ?_
 refine tk_ 1 (some 4) HT_ HW_ rfl rfl (.inl ⟨by rfl, by rintro w' ⟨s0, s1⟩; go_simp; with_reducible rfl⟩) hHeld (by simp only [Act.put, sa_, s0_, s1_, i64_w, i32_w]; rfl) ?_
 refine tk_ 4 (some 7) HT_ HW_ rfl rfl (.inl ⟨by rfl, by rintro w' ⟨s0, s1⟩; go_simp; with_reducible rfl⟩) hHeld (by simp only [Act.put, sa_, s0_, s1_, i64_w, i32_w]; rfl) ?_
 refine on_ 2 (some 5) HT_ rfl rfl (fun K hK => ?_)
 refine goes_ Try.func76 (by kernel_rfl) rfl #[.slice A0_0 l0_0.length c0_0] (by rfl) rfl rfl (by (try simp only [List.map_toArray, List.map_cons, List.map_nil]) <;> rfl) ?_
 with_reducible refine (slices_Clone_string_string.calls _ _ l0_0 tz3 _ ?side1 ?side2 A2.out).mono ?_
 (case side1 => repeat (first | exact (Kd.C_below HR0_0.out HB.out) | (with_reducible refine Kd.C_alloc ?_ _) | (with_reducible refine Kd.C_drewN ?_ _) | (with_reducible refine Kd.C_drew ?_)))
 (case side2 => exact HC0_0.out)
 rintro e w7 ⟨vz4, rfl, ho0, hb⟩
 refine ⟨_, rfl, ?_⟩
 have n0_ := am (Kd.R_lower ho0 (below_size (by repeat first | (with_reducible first | exact HB.out | apply ba | apply bn | apply bd | refine bs (by assumption) ?_) | exact HB.out)))
 have n1_ := am (bkB (pk BKz1) hb)
 have n2_ := am (bkB (pk BKz2) hb)
 have n3_ := am (below_step (by repeat first | (with_reducible first | exact HB.out | apply ba | apply bn | apply bd | refine bs (by assumption) ?_) | exact HB.out) hb)
 clear BKz1 BKz2 HB; have HOz5 := n0_; have BKz1 := n1_; have BKz2 := n2_; have HB := n3_; clear n0_ n1_ n2_ n3_; refine hK.out _ _ (bc2 BKz1) (fun hHeld => ?_)
 clear hK K
 refine norm_ (by show Act.put _ (some 5) _ = _; simp only [Act.put, sa_, s0_, s1_, i64_w, i32_w]; rfl) ?_
 refine on_ 5 (some 8) HT_ rfl rfl (fun K hK => ?_)
 refine goes_ Try.func77 (by kernel_rfl) rfl #[.slice A0_1 l0_1.length c0_1] (by rfl) rfl rfl (by (try simp only [List.map_toArray, List.map_cons, List.map_nil]) <;> rfl) ?_
 with_reducible refine (api_Move_77.calls _ _ l0_1 tz6 _ ?side1 ?side2 A3.out).mono ?_
 (case side1 => repeat (first | exact (Kd.C_below HR0_1.out HB.out) | (with_reducible refine Kd.C_alloc ?_ _) | (with_reducible refine Kd.C_drewN ?_ _) | (with_reducible refine Kd.C_drew ?_)))
 (case side2 => exact HC0_1.out)
 rintro e w8 ⟨vz7, rfl, ho0, hb⟩
 refine ⟨_, rfl, ?_⟩
 have n0_ := am (Kd.R_below (pr HOz5) hb)
 have n1_ := am (Kd.R_lower ho0 (below_size (by repeat first | (with_reducible first | exact HB.out | apply ba | apply bn | apply bd | refine bs (by assumption) ?_) | exact HB.out)))
 have n2_ := am (bkB (pk BKz1) hb)
 have n3_ := am (bkB (pk BKz2) hb)
 have n4_ := am (below_step (by repeat first | (with_reducible first | exact HB.out | apply ba | apply bn | apply bd | refine bs (by assumption) ?_) | exact HB.out) hb)
 clear HOz5 BKz1 BKz2 HB; have HOz5 := n0_; have HOz8 := n1_; have BKz1 := n2_; have BKz2 := n3_; have HB := n4_; clear n0_ n1_ n2_ n3_ n4_; obtain ⟨Ao9, co9, eo9⟩ := Kd.R_slice HOz8.out
 (first | subst eo9 | (injection eo9 with f1_ f2_ f3_; have f4_ := f1_.symm; have f5_ := f3_.symm; clear f1_ f2_ f3_; subst f4_; subst f5_))
 obtain ⟨Ao10, co10, eo10⟩ := Kd.R_slice HOz5.out
 (first | subst eo10 | (injection eo10 with f1_ f2_ f3_; have f4_ := f1_.symm; have f5_ := f3_.symm; clear f1_ f2_ f3_; subst f4_; subst f5_))
 refine hK.out _ _ (bc2 BKz1) (fun hHeld => ?_)
 clear hK K
 refine norm_ (by show Act.put _ (some 8) _ = _; simp only [Act.put, sa_, s0_, s1_, i64_w, i32_w]; rfl) ?_
 refine pu_ 6 (some 9) HT_ rfl rfl (.inl ⟨by rfl, by intro w'; go_simp; with_reducible rfl⟩) (by simp only [Act.put, sa_, s0_, s1_, i64_w, i32_w]; rfl) ?_
 refine on_ 7 none HT_ rfl rfl (fun K hK => ?_)
 have hs11 : w8.cell? ⟨gbz2, 0, none⟩ = some (.slice none 0 0) := (blk_cell BKz2.out 0).trans rfl
 have hfs11 := blk_frozen BKz2.out 0
 have := NBz1_z2.out
 have := NBz2_z1.out
 have hs12 : w8.cell? ⟨gbz2, 1, none⟩ = some (.slice none 0 0) := (blk_cell BKz2.out 1).trans rfl
 have hfs12 := blk_frozen BKz2.out 1
 have := NBz1_z2.out
 have := NBz2_z1.out
 refine skip_ (by rfl) rfl (by go_simp; rfl) ?_
 refine hK.out _ _ ⟨((cell_far (p := ⟨gbz2, _, none⟩) NBz1_z2.out _).trans (((cell_far (p := ⟨gbz2, _, none⟩) NBz1_z2.out _).trans (hHeld.1)))), ((cell_far (p := ⟨gbz2, _, none⟩) NBz1_z2.out _).trans (((cell_far (p := ⟨gbz2, _, none⟩) NBz1_z2.out _).trans (hHeld.2))))⟩ (fun hHeld => ?_)
 clear hK K
 refine done_ (done_of HT_.out (by kernel_rfl)) ?_
 try go_wp2
 refine bodyPost_ret (results_cell_row rfl _ _ gbz2 30 #[.slice Ao10 tz3.length co10, .slice Ao9 tz6.length co9] (0, 0) _ rfl (by (with_reducible repeat (first | refine blk_drewN ?_ _ | refine bkD ?_ | refine bkA ?_ _)); apply bp2; exact pk BKz2) Try.underlying30 rfl (by kernel_rfl)) rfl ?_
 exact ⟨_, _, by first | rfl | (simp <;> rfl) | (simp [*] <;> rfl), by (with_reducible repeat first | apply ra | apply rn | apply rd); exact Kd.R_mono (rf2 (Kd.R_types HOz5.out BKz2.out (by decide)) (fun _ hk => hk.2)) (fun _ hk => trivial), by (with_reducible repeat first | apply ra | apply rn | apply rd); exact Kd.R_mono (rf2 (Kd.R_types HOz8.out BKz2.out (by decide)) (fun _ hk => hk.2)) (fun _ hk => trivial), by repeat first | (with_reducible first | exact HB.out | apply ba | apply bn | apply bd | refine bs (by assumption) ?_) | exact HB.out⟩
end Go.Proofs.Ytcfinlmocgbnbaa.Pr
end
section
namespace Go.Proofs.Ytcfinlmocgbnbaa.Pr
open Go.RowKit Go.Shelf Go.Proofs.Ytcfinlmocgbnbaa.XB Go.Proofs.YtcfinlmocgbnbaaW.PrintWords
attribute [local go_sem] Oper.semAt_some
set_option linter.unusedVariables false
set_option linter.unusedSimpArgs false
structure RightS (su : List ByteArray) (so : List S24) : Prop where
  one : 1 ≤ su.length
  most : su.length ≤ 400
  few : so.length ≤ 3000
  fits : Fits su so
  nos : ∀ m ∈ so, m.f0 = false
theorem right_iff {su : List ByteArray} {so : List S24} : rightB su so = true ↔ RightS su so := by
  unfold rightB
  simp only [Bool.and_eq_true, decide_eq_true_eq, Bool.not_eq_true', List.any_eq_false, Bool.not_eq_true]
  constructor
  · rintro ⟨h0, h1, h2, h3, h4, h5⟩
    have hs : ∀ m ∈ so, m.f0 = false := fun m hm => by have := h4 m hm; simpa [syncB] using this
    have ho : ∀ m ∈ so, ¬ m.f1 < 0 ∧ ¬ m.f1 ≥ (su.length : Int) ∧ (m.f2.size : Int) = 64 := fun m hm => by
      have := h5 m hm
      unfold oddB at this
      rw [hs m hm] at this
      simpa [and_assoc] using this
    refine ⟨by omega, by omega, by omega, ⟨fun m hm => ?_, fun m hm => ?_, fun s hs' => ?_⟩, hs⟩
    · have := ho m hm; omega
    · have := ho m hm; omega
    · have := h3 s hs'
      unfold shortB at this
      have h := of_decide_eq_false this
      omega
  · rintro ⟨h0, h1, h2, ⟨h3, h4, h5⟩, h6⟩
    refine ⟨by omega, by omega, by omega, fun s hs => ?_, fun m hm => ?_, fun m hm => ?_⟩
    · have := h5 s hs
      unfold shortB
      simp only [decide_eq_false_iff_not]
      omega
    · simpa [syncB] using h6 m hm
    · unfold oddB
      rw [h6 m hm]
      have a := h3 m hm
      have b := h4 m hm
      simp only [Bool.false_eq_true, if_false, Bool.or_eq_false_iff, decide_eq_false_iff_not]
      omega
theorem boxes3 (w : World) (o0 o1 o2 : Obj) :
    (((w.alloc o0).alloc o1).alloc o2).heap[w.heap.size]? = some o0 ∧ (((w.alloc o0).alloc o1).alloc o2).heap[w.heap.size + 1]? = some o1 ∧ (((w.alloc o0).alloc o1).alloc o2).heap[w.heap.size + 2]? = some o2 := by
  show (((w.heap.push _).push _).push _)[_]? = _ ∧ (((w.heap.push _).push _).push _)[_]? = _ ∧ (((w.heap.push _).push _).push _)[_]? = _
  refine ⟨?_, ?_, ?_⟩ <;> (simp only [Array.getElem?_push, Array.size_push]; repeat (first | rw [if_pos trivial] | rw [if_pos (by omega)] | rw [if_neg (by omega)]))
theorem ret30 {fn : Func} {tmps : Array Value} {w w0 : World} {g : Nat} {v0 v1 : Value} {n : Int} {r1 : List ByteArray} {r2 : List S24} {c0 c1 : Value} {p q : Nat} (hres : fn.results = #[.cell p 30, .tmp q])
    (hp : tmps.getD p undef = .pointer (some ⟨g, 0, none⟩)) (hq : tmps.getD q undef = .int .i64 n) (hg : w.heap[g]? = some (.cells #[c0, c1] 30 (0, 0))) (hgb : w0.heap.size ≤ g)
    (h0 : Kd.R Kd.string 9 w w0.heap.size (fun _ => True) v0 r1) (h1 : Kd.R k24 24 w w0.heap.size (fun _ => True) v1 r2) (hB : Below w0.heap.size w0 w) (e : Exit) (he : e = .ret) :
    bodyPost Try.prog fn (fun e w' => ∃ v0_ v1_ : Value, e = .returned (.tuple #[.agg #[v0_, v1_], .int .i64 n]) ∧ Kd.R Kd.string 9 w' w0.heap.size (fun _ => True) v0_ r1 ∧ Kd.R k24 24 w' w0.heap.size (fun _ => True) v1_ r2 ∧ Below w0.heap.size w0 w') e { tmps := tmps, defers := [] } ((w.setCell ⟨g, 0, none⟩ v0).setCell ⟨g, 1, none⟩ v1) := by
  subst he
  have X := XB.put21 (XB.put20 hg v0) v1
  have V : XB.ValsX Try.prog tmps ((w.setCell ⟨g, 0, none⟩ v0).setCell ⟨g, 1, none⟩ v1) [.cell p 30, .tmp q] [.agg #[v0, v1], .int .i64 n] := by
    rw [← hq]
    exact .cell _ _ _ _ _ hp X Try.underlying30 rfl (by kernel_rfl) (.tmp .nil)
  refine bodyPost_ret (XB.resultsX_list hres (by simp) V) rfl ?_
  exact ⟨_, _, rfl, Kd.R_set (Kd.R_set h0 hg (by decide) 0 _) (XB.put20 hg v0) (by decide) 1 _, Kd.R_set (Kd.R_set h1 hg (by decide) 0 _) (XB.put20 hg v0) (by decide) 1 _, (hB.setCell hgb _).setCell hgb _⟩
theorem own_f {su : List ByteArray} {so : List S24} (h : su.length < 8796093022208 ∧ so.length < 4398046511104) : disk_own.f su so = some (su, so) := by
  unfold disk_own.f slices_Clone_string_string.f api_Move_77.f
  rw [if_pos h.1, if_pos h.2]
  rfl
end Go.Proofs.Ytcfinlmocgbnbaa.Pr
end
