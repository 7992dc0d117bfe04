/-
  A part of what the row IdealKeeps reaches, laid together by a program of this session (wip/tools/shake.py) out of this seat's texts. No condition but the ones that each lemma names.
-/
import Derived.Test.YtmkncddbecmlpaaProg
import Derived.Below
import Derived.Deep.Draws
import Derived.Deep.AppendLies
import Derived.Maps.AppendAt
import Derived.OwnWalk
import Derived.Laws.BytesArg
import Derived.Laws.MakeOwn
import Derived.Laws.OwnMore
import Derived.Deep.OwnRows
import Derived.Tactics
import Derived.Lib.ConvBytes
import Derived.Laws.Slices
import Derived.WalkKit
import Derived.KernelRfl
import Derived.RowKit3
import Derived.Deep.LoopGhost
import Derived.Deep.QuietTactic
import Derived.BigQuiet
import Derived.WideLaws
import Derived.Deep.DeepCutAuto
import Derived.Deep.CutBlock
import Derived.Deep.RegionHeld3
import Derived.Laws.Rows
import Derived.Lib.AppendStr
import Derived.ArgAppend
import Derived.Laws.IdiomCopy
import Derived.OrdersHeld
import Derived.Laws.BitsLemmas
import Derived.RowKit
import Derived.Lib.SliceRun
import Derived.RangeFuncNested
import Derived.RangeFuncBound
import Derived.RangeFuncCalls
import Derived.RangeFuncLeaves
import Derived.Shelf.Abstract
import Derived.Shelf.RegionOpen
import Derived.OwnWalkIn
import Derived.TacticsInMore
import Derived.LoopNIn
import Derived.LoopIn
import Derived.RegionTactic
import Derived.ChangeAlike
import Derived.Outline
import Derived.Lib.Hide
import Derived.Maps.OwnIn
import Derived.StringKeys
import Derived.MapKept
import Derived.Carry
import Derived.Test.YtmkncddbecmlpaaZIdealKeeps0
set_option linter.unusedVariables false
set_option linter.unusedSimpArgs false
section
set_option linter.unusedVariables false
namespace Go.Proofs.Ytmkncddbecmlpaa.Sq
open Go.RowKit Go.Proofs.YtmkncddbecmlpaaW.PrintWords Go.Proofs.YtmkncddbecmlpaaW.PrintLast Go.Proofs.YtmkncddbecmlpaaW.PrintMore
variable {P : Program} {ops : Array Oper} {Q : Exit → Act → World → Prop} {md : Region.Mode} {S : World → Prop} {ds : List Nat} {T : Bool × List (List Nat × List Nat)} {B : List Nat}
theorem pu_ {oi : Oper} {v : Value} {fuel : Nat} {l : Array Bool} {a a' : Act} {w : World} (i : Nat) (N : Option Tmp) (hT : Aside0 (rtab md ops = T)) (hi : ops[i]? = some oi) (hN : oi.dst = N) (hc : anyT T l.toList (l.setIfInBounds i true).toList i = true)
    (hQ : ∀ c a w, Q (.panic c) (a.put oi.dst v) w → Q (.panic c) a w) (hy : Yields P ops oi v a) (ha : a.put N v = a') (h : wpAnyLast P md ops Q S ds fuel (l.setIfInBounds i true) a' w) : wpAnyLast P md ops Q S ds (fuel + 1) l a w :=
  pure_ (i := i) (N := N) _ hi hN (any_of hT.out hc) hQ hy ha h
theorem tk_ {oi : Oper} {v : Value} {fuel : Nat} {l : Array Bool} {a a' : Act} {w : World} (i : Nat) (N : Option Tmp) (hT : Aside0 (rtab md ops = T)) (hB : Aside0 (waitsOk T.2 B = true)) (hi : ops[i]? = some oi) (hN : oi.dst = N) (hc : takeW T B ds l.toList (l.setIfInBounds i true).toList i = true)
    (hQ : ∀ c a w, Q (.panic c) (a.put oi.dst v) w → Q (.panic c) a w) (hy : YieldsIf P ops S oi v a) (hS : S w) (ha : a.put N v = a') (h : wpAnyLast P md ops Q S ds fuel (l.setIfInBounds i true) a' w) : wpAnyLast P md ops Q S ds (fuel + 1) l a w :=
  take_ (i := i) (N := N) _ hi hN (take_ofW hT.out hB.out hc) hQ hy hS ha h
theorem on_ {oi : Oper} {fuel : Nat} {l : Array Bool} {a : Act} {w : World} (i : Nat) (N : Option Tmp) (hT : Aside0 (rtab md ops = T)) (hi : ops[i]? = some oi) (hN : oi.dst = N) (hc : (readyT T.2 l.toList == [i] && l.toList.set i true == (l.setIfInBounds i true).toList) = true) (hd : i ∉ ds)
    (h : ∀ K : Act → World → Prop, Shut (∀ a' w', S w' → (S w' → wpAnyLast P md ops Q S ds fuel (l.setIfInBounds i true) a' w') → K a' w') → if Region.wanted oi (yielded ops a.tmps) = true then Oper.wp P oi a w K Q else K (a.put N undef) w) :
    wpAnyLast P md ops Q S ds (fuel + 1) l a w :=
  one_ (i := i) (N := N) _ hi hN (one_of hT.out hc) hd h
theorem la_ {oi : Oper} {fuel : Nat} {l : Array Bool} {a : Act} {w : World} (i : Nat) (N : Option Tmp) (hT : Aside0 (rtab md ops = T)) (hi : ops[i]? = some oi) (hN : oi.dst = N) (hc : (readyT T.2 l.toList == [i] && l.toList.set i true == (l.setIfInBounds i true).toList) = true) (hd : i ∈ ds)
    (h : ∀ K : Act → World → Prop, Shut (∀ a' w', wpAnyLast P md ops Q S ds fuel (l.setIfInBounds i true) a' w' → K a' w') → if Region.wanted oi (yielded ops a.tmps) = true then Oper.wp P oi a w K Q else K (a.put N undef) w) :
    wpAnyLast P md ops Q S ds (fuel + 1) l a w :=
  last_ (i := i) (N := N) _ hi hN (one_of hT.out hc) hd h
theorem sa_ {α : Type _} (l : List α) (i : Nat) (a : α) : l.toArray.setIfInBounds i a = (l.set i a).toArray := List.setIfInBounds_toArray ..
theorem s0_ {α : Type _} (x : α) (l : List α) (a : α) : (x :: l).set 0 a = a :: l := rfl
theorem s1_ {α : Type _} (x : α) (l : List α) (n : Nat) (a : α) : (x :: l).set (n + 1) a = x :: l.set n a := rfl
class Later (w w' : World) : Prop where
  below : Below w.heap.size w w'
instance (w : World) : Later w w := ⟨Below.refl _ _⟩
instance (w w' : World) (o : Obj) [h : Later w w'] : Later w (w'.alloc o) := ⟨below_alloc h.below o⟩
instance (w w' : World) [h : Later w w'] : Later w w'.drew := ⟨below_drew h.below⟩
instance (w w' : World) (n : Nat) [h : Later w w'] : Later w (w'.drewN n) := ⟨pw_below_drewN h.below n⟩
theorem am {p : Prop} (h : p) : Aside0 p := ⟨h⟩
theorem pb {w0 w w' : World} (h : Aside0 (Below w0.heap.size w0 w)) [k : Later w w'] : Below w0.heap.size w0 w' := below_step h.out k.below
theorem pk {w w' : World} {g : Nat} {o : Obj} (h : Aside0 (w.heap[g]? = some o)) [k : Later w w'] : w'.heap[g]? = some o := blk_below h.out k.below
theorem pr {α : Type} {d : Kd α} {e base : Nat} {ok : Nat → Prop} {v : Value} {xs : List α} {w w' : World} (h : Aside0 (d.R e w base ok v xs)) [k : Later w w'] : d.R e w' base ok v xs := Kd.R_below h.out k.below
theorem pm {α : Type} {d : Kd α} {e base : Nat} {ok ok' : Nat → Prop} {v : Value} {xs : List α} {w w' : World} (h : Aside0 (d.R e w base ok v xs)) (f : ∀ k, ok k → ok' k) [k : Later w w'] : d.R e w' base ok' v xs := Kd.R_mono (Kd.R_below h.out k.below) f
section
variable {w : World} {g : Nat} {t : TypeId} {a b c d e f : Value}
theorem bc2 (h : Aside0 (w.heap[g]? = some (.cells #[a, b] t (0, 0)))) : w.cell? ⟨g, 0, none⟩ = some a ∧ w.cell? ⟨g, 1, none⟩ = some b := ⟨(blk_cell h.out 0).trans rfl, (blk_cell h.out 1).trans rfl⟩
theorem bc3 (h : Aside0 (w.heap[g]? = some (.cells #[a, b, c] t (0, 0)))) : w.cell? ⟨g, 0, none⟩ = some a ∧ w.cell? ⟨g, 1, none⟩ = some b ∧ w.cell? ⟨g, 2, none⟩ = some c := ⟨(blk_cell h.out 0).trans rfl, (blk_cell h.out 1).trans rfl, (blk_cell h.out 2).trans rfl⟩
theorem bc5 (h : Aside0 (w.heap[g]? = some (.cells #[a, b, c, d, e] t (0, 0)))) : w.cell? ⟨g, 0, none⟩ = some a ∧ w.cell? ⟨g, 1, none⟩ = some b ∧ w.cell? ⟨g, 2, none⟩ = some c ∧ w.cell? ⟨g, 3, none⟩ = some d ∧ w.cell? ⟨g, 4, none⟩ = some e := ⟨(blk_cell h.out 0).trans rfl, (blk_cell h.out 1).trans rfl, (blk_cell h.out 2).trans rfl, (blk_cell h.out 3).trans rfl, (blk_cell h.out 4).trans rfl⟩
end
section
variable {α : Type} {d : Kd α} {e base g : Nat} {ok : Nat → Prop} {v : Value} {xs : List α} {w : World} {v0 v1 v2 v3 v4 : Value}
theorem rf1 (h : d.R e w base ok v xs) (hg : ∀ k, ok k → k ≠ g) : d.R e (w.setCell ⟨g, 0, none⟩ v0) base ok v xs := Kd.R_far (p := ⟨g, 0, none⟩) h hg v0
theorem rf2 (h : d.R e w base ok v xs) (hg : ∀ k, ok k → k ≠ g) : d.R e ((w.setCell ⟨g, 0, none⟩ v0).setCell ⟨g, 1, none⟩ v1) base ok v xs := Kd.R_far (p := ⟨g, 1, none⟩) (rf1 h hg) hg v1
theorem rf3 (h : d.R e w base ok v xs) (hg : ∀ k, ok k → k ≠ g) : d.R e (((w.setCell ⟨g, 0, none⟩ v0).setCell ⟨g, 1, none⟩ v1).setCell ⟨g, 2, none⟩ v2) base ok v xs := Kd.R_far (p := ⟨g, 2, none⟩) (rf2 h hg) hg v2
theorem rf4 (h : d.R e w base ok v xs) (hg : ∀ k, ok k → k ≠ g) : d.R e ((((w.setCell ⟨g, 0, none⟩ v0).setCell ⟨g, 1, none⟩ v1).setCell ⟨g, 2, none⟩ v2).setCell ⟨g, 3, none⟩ v3) base ok v xs := Kd.R_far (p := ⟨g, 3, none⟩) (rf3 h hg) hg v3
theorem rf5 (h : d.R e w base ok v xs) (hg : ∀ k, ok k → k ≠ g) : d.R e (((((w.setCell ⟨g, 0, none⟩ v0).setCell ⟨g, 1, none⟩ v1).setCell ⟨g, 2, none⟩ v2).setCell ⟨g, 3, none⟩ v3).setCell ⟨g, 4, none⟩ v4) base ok v xs := Kd.R_far (p := ⟨g, 4, none⟩) (rf4 h hg) hg v4
end
end Go.Proofs.Ytmkncddbecmlpaa.Sq
end
section
namespace Go.Proofs.Ytmkncddbecmlpaa.Pr
open Go.RowKit Go.Proofs.YtmkncddbecmlpaaW.PrintWords Go.Proofs.YtmkncddbecmlpaaW.PrintLast Go.Proofs.YtmkncddbecmlpaaW.PrintMore
attribute [local go_sem] max2_int min2_int max_two min_two max_three min_three max_four min_four
set_option linter.unusedVariables false
set_option linter.unusedSimpArgs false
def errW : Option Int → Value
 | none => .nilIface
 | some c => .iface 0 (.int .i64 c)
theorem errW_none : errW none = .nilIface := rfl
theorem errW_some (c : Int) : errW (some c) = .iface 0 (.int .i64 c) := rfl
theorem info5 : (Try.prog.info? 5).map (fun i => (i.zero, i.size, i.bytes)) = some (some (.int .u8 0), 1, 1) := by kernel_rfl
theorem info9 : (Try.prog.info? 9).map (fun i => (i.zero, i.size, i.bytes)) = some (some (.string ⟨#[]⟩), 1, 16) := by kernel_rfl
theorem info72 : (Try.prog.info? 72).map (fun i => (i.zero, i.size, i.bytes)) = some (some (.agg #[(.string ⟨#[]⟩), (.string ⟨#[]⟩)]), 2, 32) := by kernel_rfl
theorem info74 : (Try.prog.info? 74).map (fun i => (i.zero, i.size, i.bytes)) = some (some (.agg #[(.string ⟨#[]⟩), (.string ⟨#[]⟩), (.string ⟨#[]⟩)]), 3, 48) := by kernel_rfl
structure S72 where
 f0 : ByteArray
 f1 : ByteArray
def z72 : S72 := ⟨(⟨#[]⟩ : ByteArray), (⟨#[]⟩ : ByteArray)⟩
def k72 : Kd S72 := Kd.iso (Kd.pair Kd.string Kd.string) (fun x : S72 => (x.f0, x.f1))
theorem k72_open {w : World} {x : S72} {cs : List Value} (h : k72.K w x cs) : cs = [.string x.f0, .string x.f1] := by
 obtain ⟨_, _, rfl, rfl, rfl⟩ := h
 exact rfl
theorem k72_mkM (w : World) (base : Nat) (ok : Nat → Prop) (x : S72)  : k72.M w base ok x [.string x.f0, .string x.f1] := ⟨[.string x.f0], [.string x.f1], rfl, rfl, rfl⟩
def rd_T72 (xs : List S72) (i : Int) : S72 := xs.getD i.toNat z72
theorem at_T72 {w : World} {A : Option Addr} {n : Nat} {xs : List S72} (h : Kd.C k72 w A n xs) (i : Int) (h0 : 0 ≤ i) (h1 : i < n) : ∃ ad , A = some ad ∧ w.cell? (ad.add (i.toNat * 2)) = some (.string (rd_T72 xs i).f0) ∧ w.cell? ⟨(ad.add (i.toNat * 2)).block, (ad.add (i.toNat * 2)).off + 1, none⟩ = some (.string (rd_T72 xs i).f1) := by
 obtain ⟨ad, c, e, _, hK, hc0⟩ := Kd.C_get h z72 i h0 h1
 have hc : ∀ j u, c[j]? = some u → w.cell? (ad.add (i.toNat * 2 + j)) = some u := hc0
 obtain rfl := k72_open hK
 exact ⟨ad, e, hc 0 _ rfl, by rw [← add_field _ _ 1 (by omega)]; exact hc 1 _ rfl⟩
structure S74 where
 f0 : ByteArray
 f1 : ByteArray
 f2 : ByteArray
def z74 : S74 := ⟨(⟨#[]⟩ : ByteArray), (⟨#[]⟩ : ByteArray), (⟨#[]⟩ : ByteArray)⟩
def k74 : Kd S74 := Kd.iso (Kd.pair Kd.string (Kd.pair Kd.string Kd.string)) (fun x : S74 => (x.f0, x.f1, x.f2))
theorem k74_open {w : World} {x : S74} {cs : List Value} (h : k74.K w x cs) : cs = [.string x.f0, .string x.f1, .string x.f2] := by
 obtain ⟨_, _, rfl, rfl, ⟨_, _, rfl, rfl, rfl⟩⟩ := h
 exact rfl
theorem k74_mkM (w : World) (base : Nat) (ok : Nat → Prop) (x : S74)  : k74.M w base ok x [.string x.f0, .string x.f1, .string x.f2] := ⟨[.string x.f0], [.string x.f1, .string x.f2], rfl, rfl, ⟨[.string x.f1], [.string x.f2], rfl, rfl, rfl⟩⟩
def rd_T74 (xs : List S74) (i : Int) : S74 := xs.getD i.toNat z74
theorem at_T74 {w : World} {A : Option Addr} {n : Nat} {xs : List S74} (h : Kd.C k74 w A n xs) (i : Int) (h0 : 0 ≤ i) (h1 : i < n) : ∃ ad , A = some ad ∧ w.cell? (ad.add (i.toNat * 3)) = some (.string (rd_T74 xs i).f0) ∧ w.cell? ⟨(ad.add (i.toNat * 3)).block, (ad.add (i.toNat * 3)).off + 1, none⟩ = some (.string (rd_T74 xs i).f1) ∧ w.cell? ⟨(ad.add (i.toNat * 3)).block, (ad.add (i.toNat * 3)).off + 2, none⟩ = some (.string (rd_T74 xs i).f2) := by
 obtain ⟨ad, c, e, _, hK, hc0⟩ := Kd.C_get h z74 i h0 h1
 have hc : ∀ j u, c[j]? = some u → w.cell? (ad.add (i.toNat * 3 + j)) = some u := hc0
 obtain rfl := k74_open hK
 exact ⟨ad, e, hc 0 _ rfl, by rw [← add_field _ _ 1 (by omega)]; exact hc 1 _ rfl, by rw [← add_field _ _ 2 (by omega)]; exact hc 2 _ rfl⟩
structure S23 where
 f0 : ByteArray
 f1 : Int
structure S50 where
 f0 : S23
 f1 : (List S72)
 f2 : (List S74)
 f3 : Bool
structure S46 where
 f0 : Int
 f1 : Int
 f2 : Int
def z46 : S46 := ⟨(0 : Int), (0 : Int), (0 : Int)⟩
def k46 : Kd S46 := Kd.iso (Kd.pair (Kd.int .i64) (Kd.pair (Kd.int .i64) (Kd.int .i64))) (fun x : S46 => (x.f0, x.f1, x.f2))
theorem k46_open {w : World} {x : S46} {cs : List Value} (h : k46.K w x cs) : cs = [.int .i64 x.f0, .int .i64 x.f1, .int .i64 x.f2] := by
 obtain ⟨_, _, rfl, rfl, ⟨_, _, rfl, rfl, rfl⟩⟩ := h
 exact rfl
theorem k46_mk (w : World) (x : S46)  : k46.K w x [.int .i64 x.f0, .int .i64 x.f1, .int .i64 x.f2] := ⟨[.int .i64 x.f0], [.int .i64 x.f1, .int .i64 x.f2], rfl, rfl, ⟨[.int .i64 x.f1], [.int .i64 x.f2], rfl, rfl, rfl⟩⟩
def rd_T46 (xs : List S46) (i : Int) : S46 := xs.getD i.toNat z46
theorem at_T46 {w : World} {A : Option Addr} {n : Nat} {xs : List S46} (h : Kd.C k46 w A n xs) (i : Int) (h0 : 0 ≤ i) (h1 : i < n) : ∃ ad , A = some ad ∧ w.cell? (ad.add (i.toNat * 3)) = some (.int .i64 (rd_T46 xs i).f0) ∧ w.cell? ⟨(ad.add (i.toNat * 3)).block, (ad.add (i.toNat * 3)).off + 1, none⟩ = some (.int .i64 (rd_T46 xs i).f1) ∧ w.cell? ⟨(ad.add (i.toNat * 3)).block, (ad.add (i.toNat * 3)).off + 2, none⟩ = some (.int .i64 (rd_T46 xs i).f2) := by
 obtain ⟨ad, c, e, _, hK, hc0⟩ := Kd.C_get h z46 i h0 h1
 have hc : ∀ j u, c[j]? = some u → w.cell? (ad.add (i.toNat * 3 + j)) = some u := hc0
 obtain rfl := k46_open hK
 exact ⟨ad, e, hc 0 _ rfl, by rw [← add_field _ _ 1 (by omega)]; exact hc 1 _ rfl, by rw [← add_field _ _ 2 (by omega)]; exact hc 2 _ rfl⟩
structure S63 where
 f0 : ByteArray
 f1 : ByteArray
end Go.Proofs.Ytmkncddbecmlpaa.Pr
end
section
namespace Go.Proofs.Ytmkncddbecmlpaa.Pr
open Go.Proofs.Ytmkncddbecmlpaa.Sq Go.RowKit Go.Proofs.YtmkncddbecmlpaaW.PrintWords Go.Proofs.YtmkncddbecmlpaaW.PrintLast Go.Proofs.YtmkncddbecmlpaaW.PrintMore
attribute [local go_sem] max2_int min2_int max_two min_two max_three min_three max_four min_four
set_option linter.unusedVariables false
set_option linter.unusedSimpArgs false
def columbariumlaw08_pick.f (a0 : Int) (a1 : Int) : Option (Int) := if a0 < 0 then (if a1 = 0 then (none) else (some (Int.tmod (wrap64 (-(wrap64 (a0 + 1)))) a1))) else (if a1 = 0 then (none) else (some (Int.tmod a0 a1)))
set_option maxHeartbeats 8000000 in
set_option maxRecDepth 100000 in
theorem columbariumlaw08_pick.calls (a0 : Int) (a1 : Int) (r : Int) (w : World) (h : columbariumlaw08_pick.f a0 a1 = some r) :
  Calls Try.prog 34 #[.int .i64 a0, .int .i64 a1] w fun e w' => e = .returned (.int .i64 r) ∧ Drawn0 w w' := by
 have H : (if a0 < 0 then (if a1 = 0 then (none) else (some (Int.tmod (wrap64 (-(wrap64 (a0 + 1)))) a1))) else (if a1 = 0 then (none) else (some (Int.tmod a0 a1)))) = some r := h
 clear h
 by_cases c3 : a0 < 0
 ·rw [if_pos c3] at H
  have c3b0 : decide (a0 < 0) = true := decide_eq_true c3
  clear c3
  by_cases c4 : a1 = 0
  ·rw [if_pos c4] at H
   exact absurd H (by simp)
  rw [if_neg c4] at H
  have c4b0 : (a1 == 0) = false := beq_eq_false_iff_ne.mpr c4
  have c4b1 : (a1 != 0) = true := bne_iff_ne.mpr c4
  obtain rfl := Option.some.inj H
  go_enter Try.func34, Try.ntmps34
  go_wp2
  go_ret
  exact ⟨by first | rfl | (simp; done) | (simp [*]; done), by repeat (first | exact Drawn0.refl _ | apply Drawn0.step)⟩
 rw [if_neg c3] at H
 have c3b0 : decide (a0 < 0) = false := decide_eq_false c3
 clear c3
 by_cases c5 : a1 = 0
 ·rw [if_pos c5] at H
  exact absurd H (by simp)
 rw [if_neg c5] at H
 have c5b0 : (a1 == 0) = false := beq_eq_false_iff_ne.mpr c5
 have c5b1 : (a1 != 0) = true := bne_iff_ne.mpr c5
 obtain rfl := Option.some.inj H
 go_enter Try.func34, Try.ntmps34
 go_wp2
 go_ret
 exact ⟨by first | rfl | (simp; done) | (simp [*]; done), by repeat (first | exact Drawn0.refl _ | apply Drawn0.step)⟩
end Go.Proofs.Ytmkncddbecmlpaa.Pr
end
section
namespace Go.Proofs.Ytmkncddbecmlpaa.Pr
open Go.Proofs.Ytmkncddbecmlpaa.Sq Go.RowKit Go.Proofs.YtmkncddbecmlpaaW.PrintWords Go.Proofs.YtmkncddbecmlpaaW.PrintLast Go.Proofs.YtmkncddbecmlpaaW.PrintMore
attribute [local go_sem] max2_int min2_int max_two min_two max_three min_three max_four min_four
set_option linter.unusedVariables false
set_option linter.unusedSimpArgs false
mutual
def columbariumlaw08_Draws.l0 : Nat → List Int → Bool → List Int → Int → Option (ByteArray × Int)
 | 0, _, _, _, _ => none
 | k + 1, x0, x1, x5, x6 => if x6 < 2000 then (if (x0.length : Int) > 0 then (if (x0.length : Int) = 0 then (none) else (if 0 ≤ (Int.tmod x6 (x0.length : Int)) then (if (Int.tmod x6 (x0.length : Int)) < (x0.length : Int) then ((columbariumlaw08_pick.f (rd x0 (Int.tmod x6 (x0.length : Int))) 256).bind fun tz3 => (columbariumlaw08_Draws.j1 k x0 x1 x5 x6 (wrap64 ((wrap64 ((wrap64 (7 * x6)) * x6)) + (wrap64 (tz3 * (wrap64 (1 + (wrap64 (Int.tdiv x6 (x0.length : Int))))))))))) else (none)) else (none))) else (columbariumlaw08_Draws.j1 k x0 x1 x5 x6 (wrap64 ((wrap64 (7 * x6)) * x6)))) else (some (strOfNums x5, 0))
def columbariumlaw08_Draws.j1 : Nat → List Int → Bool → List Int → Int → Int → Option (ByteArray × Int)
 | 0, _, _, _, _, _ => none
 | k + 1, x0, x1, x5, x6, x7 => if x1 = true then (if (Int.tmod x6 8) = 0 then (if (x0.length : Int) > 0 then (if (x0.length : Int) = 0 then (none) else (if 0 ≤ (Int.tmod (wrap64 (Int.tdiv x6 8)) (x0.length : Int)) then (if (Int.tmod (wrap64 (Int.tdiv x6 8)) (x0.length : Int)) < (x0.length : Int) then ((columbariumlaw08_pick.f (rd x0 (Int.tmod (wrap64 (Int.tdiv x6 8)) (x0.length : Int))) 3).bind fun tz5 => (if x5.length < 140737488355328 then (columbariumlaw08_Draws.l0 k x0 x1 (x5 ++ [(tz5) % 256]) (wrap64 (x6 + 1))) else (none))) else (none)) else (none))) else (if x5.length < 140737488355328 then (columbariumlaw08_Draws.l0 k x0 x1 (x5 ++ [0]) (wrap64 (x6 + 1))) else (none))) else (if x5.length < 140737488355328 then (columbariumlaw08_Draws.l0 k x0 x1 (x5 ++ [0]) (wrap64 (x6 + 1))) else (none))) else (if x5.length < 140737488355328 then (columbariumlaw08_Draws.l0 k x0 x1 (x5 ++ [(x7) % 256]) (wrap64 (x6 + 1))) else (none))
end
def columbariumlaw08_Draws.f (k : Nat) (l0 : List Int) (a1 : Bool) : Option (ByteArray × Int) := columbariumlaw08_Draws.l0 k l0 a1 ([] : List Int) 0
def columbariumlaw08_Draws.T7 : Bool × List (List Nat × List Nat) := (true, [([], []), ([], []), ([], []), ([], []), ([3], [3]), ([2, 4], [2, 4]), ([1, 5], [1, 5]), ([6], [6]), ([7], [7]), ([], []), ([], []), ([10], [10]), ([9, 11], [9, 11]), ([12], [12]), ([8, 13], [8, 13]), ([0, 14], [0, 14]), ([15, 8, 0, 1, 2, 3, 4, 5, 6, 7, 8, 9, 10, 11, 12, 13, 14, 15], [0, 15])])
def columbariumlaw08_Draws.B7 : List Nat := [0, 0, 0, 0, 8, 28, 62, 126, 254, 0, 0, 1024, 3584, 7680, 16382, 32767, 65535]
theorem columbariumlaw08_Draws.tab7 : rtab .any (opsOf Try.f29 7) = columbariumlaw08_Draws.T7 := by kernel_rfl
theorem columbariumlaw08_Draws.bits7 : waitsOk columbariumlaw08_Draws.T7.2 columbariumlaw08_Draws.B7 = true := by kernel_rfl
set_option maxHeartbeats 8000000 in
set_option maxRecDepth 100000 in
theorem columbariumlaw08_Draws.calls (k : Nat) (A0 : Option Addr) (c0 : Nat) (l0 : List Int) (a1 : Bool) (r1 : ByteArray) (r2 : Int) (w : World) (hr0 : Kd.C (Kd.int .i64) w A0 l0.length l0) (hc0 : l0.length ≤ c0) (h : columbariumlaw08_Draws.f k l0 a1 = some (r1, r2)) :
  Calls Try.prog 29 #[.slice A0 l0.length c0, .bool a1] w fun e w' => e = .returned (.agg #[.string r1, .int .i64 r2]) ∧ Below w.heap.size w w' := by
 have hu23 := Try.underlying23
 have HR0 := am hr0
 have HC0 := am hc0
 clear hr0 hc0
 have HB := am (Below.refl w.heap.size w)
 have H : (columbariumlaw08_Draws.l0 k l0 a1 ([] : List Int) 0) = some (r1, r2) := h
 clear h
 have H' := am H
 clear H
 go_enter Try.func29, Try.ntmps29
 go_wp2_with (first | ((with_reducible refine gate_dst (N := 4) rfl ?_); (try (refine gate_guard (by rfl) ?_; dsimp only)); refine box_event ?hg (N := 4) ?hd (cs := #[.string (⟨#[]⟩ : ByteArray), .int .i64 0]) (t := 23) ?hr ?_; (case hd => rfl); (case hg => rfl); (case hr => first | (go_simp; done) | (go_simp; rfl)); intro gbz1 hg w3 hbox hb; have n0_ := am (below_step (pb HB) hb); have n1_ := am (hbox); have n2_ := am ((by rw [hg]; exact (below_size (pb HB)) : w.heap.size ≤ gbz1)); have n3_ := am ((by rw [hg]; exact (below_size (pb HB)) : w.heap.size ≤ gbz1)); clear HB; have HB := n0_; have BKz1 := n1_; have GWz1 := n2_; have GEz1 := n3_; clear n0_ n1_ n2_ n3_; clear hb hbox hg))
 go_loopg [5, 6] k (fun kq v5 v6 w' => ∃ (x5_1 : List Int) (x6_1 : Int), v6 = .int .i64 x6_1 ∧ Aside0 (columbariumlaw08_Draws.l0 kq l0 a1 x5_1 x6_1 = some (r1, r2)) ∧ Aside0 (kq ≤ k) ∧ Aside0 (Kd.R (Kd.int .u8) 5 w' w.heap.size (fun _ => True) v5 x5_1) ∧ Aside0 (w'.heap[gbz1]? = some (.cells #[.string (⟨#[]⟩ : ByteArray), .int .i64 0] 23 (0, 0))) ∧ Aside0 (Below w.heap.size w w'))
 case atStart => exact ⟨(([] : List Int)), (0), (by first | rfl | (simp; done) | (simp [*]; done)), H', ⟨Nat.le_refl _⟩, ⟨by first | exact Kd.R_nil _ _ _ _ _ | exact Kd.N_nil _ _ _ _ _ | exact Kd.V_nil _ _ _ _ _ | exact Kd.Q_nil _ _ _ _ _ | exact Kd.S_nil _ _ _ _ _⟩, ⟨by (with_reducible repeat (first | refine blk_drewN ?_ _ | refine blk_drew ?_ | refine blk_alloc ?_ _)); exact BKz1.out⟩, ⟨by repeat (first | (with_reducible first | exact HB.out | apply below_alloc | apply pw_below_drewN | apply below_drew1 | refine below_set ?_ GEz1.out) | exact HB.out)⟩⟩
 case round =>
  clear H'
  try clear c2
  try clear p2
  obtain ⟨x5_1, x6_1, rfl, HA, HK1, HO_5, BKz1, HB⟩ := hrel
  cases gk with
  | zero => exact absurd HA.out (by simp [columbariumlaw08_Draws.l0])
  | succ k1 =>
   have H := HA.out
   clear HA
   simp only [columbariumlaw08_Draws.l0] at H
   by_cases c4 : x6_1 < 2000
   rotate_left
   ·rw [if_neg c4] at H
    have c4b0 : decide (x6_1 < 2000) = false := decide_eq_false c4
    clear c4
    simp only [Option.some.injEq, Prod.mk.injEq] at H
    obtain ⟨rfl, rfl⟩ := H
    have hcv29 := own_string (P := Try.prog) Try.underlying57 Try.underlying5 Try.underlying9 (Kd.own_of_R HO_5.out)
    have hcz30_0 : wr.cell? ⟨gbz1, 0, none⟩ = some (.string (⟨#[]⟩ : ByteArray)) := (blk_cell BKz1.out 0).trans rfl
    have hcz30_1 : wr.cell? ⟨gbz1, 1, none⟩ = some (.int .i64 0) := (blk_cell BKz1.out 1).trans rfl
    have hfz30_0 := blk_frozen BKz1.out 0
    have hfz30_1 := blk_frozen BKz1.out 1
    go_wp2
    refine bodyPost_ret (results_cell_row rfl _ _ gbz1 23 #[.string (strOfNums x5_1), .int .i64 0] (0, 0) _ rfl (by (with_reducible repeat (first | refine blk_drewN ?_ _ | refine blk_drew ?_ | refine blk_alloc ?_ _)); refine blk_put (cs := #[.string (strOfNums x5_1), .int .i64 0]) ?_ 1 _ rfl; (with_reducible repeat (first | refine blk_drewN ?_ _ | refine blk_drew ?_ | refine blk_alloc ?_ _)); refine blk_put (cs := #[.string (⟨#[]⟩ : ByteArray), .int .i64 0]) ?_ 0 _ rfl; (with_reducible repeat (first | refine blk_drewN ?_ _ | refine blk_drew ?_ | refine blk_alloc ?_ _)); exact BKz1.out) Try.underlying23 rfl (by kernel_rfl)) rfl ?_
    exact ⟨by first | rfl | (simp [errW_none, errW_some] <;> rfl) | (simp [*, errW_none, errW_some] <;> rfl), by repeat (first | (with_reducible first | exact HB.out | apply below_alloc | apply pw_below_drewN | apply below_drew1 | refine below_set ?_ GEz1.out) | exact HB.out)⟩
   rw [if_pos c4] at H
   have c4b0 : decide (x6_1 < 2000) = true := decide_eq_true c4
   clear c4
   have HC5 := am H
   clear H
   go_upto_if 18 with (fail)
   go_cut [7] (fun v7 wc => ∃ (kq : Nat) (x7_4 : Int), v7 = .int .i64 x7_4 ∧ Aside0 (columbariumlaw08_Draws.j1 kq l0 a1 x5_1 x6_1 x7_4 = some (r1, r2)) ∧ Aside0 (kq ≤ k1) ∧ Aside0 (Kd.R (Kd.int .u8) 5 wc w.heap.size (fun _ => True) u5 x5_1) ∧ Aside0 (wc.heap[gbz1]? = some (.cells #[.string (⟨#[]⟩ : ByteArray), .int .i64 0] 23 (0, 0))) ∧ Aside0 (Below w.heap.size w wc))
   case first =>
    have H := HC5.out
    clear HC5
    by_cases c6 : (l0.length : Int) > 0
    rotate_left
    ·rw [if_neg c6] at H
     have c6b0 : decide (0 < (l0.length : Int)) = false := decide_eq_false c6
     have c6b1 : decide (0 < l0.length) = false := decide_eq_false (by omega)
     clear c6
     (first | rw [c6b0] | rw [c6b1] | (simp only [i64_w, i32_w]; rw [c6b0]) | skip)
     have H' := am H
     clear H
     go_wp2
     go_meet
     case rel => exact ⟨_, (wrap64 ((wrap64 (7 * x6_1)) * x6_1)), (by first | rfl | (simp; done) | (simp [*]; done)), H', ⟨by have := HK1.out; first | omega | exact Nat.le_refl _⟩, ⟨by (with_reducible repeat (first | apply Kd.R_alloc | apply Kd.R_drewN | apply Kd.R_drew)); exact HO_5.out⟩, ⟨by (with_reducible repeat (first | refine blk_drewN ?_ _ | refine blk_drew ?_ | refine blk_alloc ?_ _)); exact BKz1.out⟩, ⟨by repeat (first | (with_reducible first | exact HB.out | apply below_alloc | apply pw_below_drewN | apply below_drew1 | refine below_set ?_ GEz1.out) | exact HB.out)⟩⟩
    rw [if_pos c6] at H
    have c6b0 : decide (0 < (l0.length : Int)) = true := decide_eq_true c6
    have c6b1 : decide (0 < l0.length) = true := decide_eq_true (by omega)
    clear c6
    (first | rw [c6b0] | rw [c6b1] | (simp only [i64_w, i32_w]; rw [c6b0]) | skip)
    by_cases c7 : (l0.length : Int) = 0
    ·rw [if_pos c7] at H
     exact absurd H (by simp)
    rw [if_neg c7] at H
    have c7b0 : ((l0.length : Int) == 0) = false := beq_eq_false_iff_ne.mpr c7
    have c7b1 : ((l0.length : Int) != 0) = true := bne_iff_ne.mpr c7
    have c7b2 : ¬ (l0 = []) := fun h_ => c7 (by rw [h_]; rfl)
    obtain ⟨ji8, hji8⟩ : ∃ j_ : Int, (Int.tmod x6_1 (l0.length : Int)) = j_ := ⟨_, rfl⟩
    replace H : (if 0 ≤ (ji8) then (if (ji8) < (l0.length : Int) then ((columbariumlaw08_pick.f (rd l0 (ji8)) 256).bind fun tz3 => (columbariumlaw08_Draws.j1 k1 l0 a1 x5_1 x6_1 (wrap64 ((wrap64 ((wrap64 (7 * x6_1)) * x6_1)) + (wrap64 (tz3 * (wrap64 (1 + (wrap64 (Int.tdiv x6_1 (l0.length : Int))))))))))) else (none)) else (none)) = some (r1, r2) := by first | (rw [hji8] at H; exact H) | (simp only [hji8] at H ⊢; exact H)
    by_cases c9 : 0 ≤ (ji8)
    rotate_left
    ·rw [if_neg c9] at H
     exact absurd H (by simp)
    rw [if_pos c9] at H
    have c9b0 : decide (0 ≤ (ji8)) = true := decide_eq_true c9
    clear c9
    by_cases c10 : (ji8) < (l0.length : Int)
    rotate_left
    ·rw [if_neg c10] at H
     exact absurd H (by simp)
    rw [if_pos c10] at H
    have c10b0 : decide ((ji8) < (l0.length : Int)) = true := decide_eq_true c10
    clear c10
    replace H := Option.bind_eq_some_iff.mp H
    obtain ⟨tz3, A110, H⟩ := H
    replace H : (columbariumlaw08_Draws.j1 k1 l0 a1 x5_1 x6_1 (wrap64 ((wrap64 ((wrap64 (7 * x6_1)) * x6_1)) + (wrap64 (tz3 * (wrap64 (1 + (wrap64 (Int.tdiv x6_1 (l0.length : Int)))))))))) = some (r1, r2) := H
    have A11 := Aside0.mk A110
    clear A110
    have H' := am H
    clear H
    try go_wp2
    have n0_ := am (Kd.R_drew HO_5.out)
    have n1_ := am (blk_drew BKz1.out)
    have n2_ := am (below_drew1 HB.out)
    clear HO_5 BKz1 HB; have HO_5 := n0_; have BKz1 := n1_; have HB := n2_; clear n0_ n1_ n2_
    have pz2 : 0 ≤ ((ji8) : Int) := of_decide_eq_true (by first | (with_reducible assumption) | assumption)
    have qz2 : (ji8) < (l0.length : Int) := of_decide_eq_true (by first | (with_reducible assumption) | assumption)
    obtain ⟨adz2, ez2, hxz2_0⟩ := Kd.at_int HR0.out (ji8) pz2 qz2
    have hwz2_0 := hxz2_0
    cases ez2
    replace hxz2_0 := (HB.out.cell (World.block_lt_of_cell? w _ hxz2_0)).trans hxz2_0
    replace pz2 := eq_true pz2
    replace qz2 := eq_true qz2
    refine start_ (n := 17) (S := fun w' => w'.cell? (adz2.add ((ji8)).toNat) = some (.int .i64 (rd l0 (ji8)))) (ds := []) #[false, false, false, false, false, false, false, false, false, false, false, false, false, false, false, false, false] (by kernel_rfl) rfl rfl (((HB.out.cell (World.block_lt_of_cell? w _ hwz2_0)).trans hwz2_0)) (fun hHeld => ?_); refine with_tabW columbariumlaw08_Draws.tab7 columbariumlaw08_Draws.bits7 (fun HT_ HW_ => ?_)
    generalize wr.drew = w12 at HO_5 BKz1 HB hxz2_0 hHeld ⊢
    refine pu_ 0 (some 19) HT_ rfl rfl (by kernel_rfl) (fun _ _ _ h => h) (.inl ⟨by rfl, by intro w'; go_simp; with_reducible rfl⟩) (by simp only [Act.put, sa_, s0_, s1_, i64_w, i32_w]; rfl) ?_
    refine pu_ 1 (some 20) HT_ rfl rfl (by kernel_rfl) (fun _ _ _ h => h) (.inl ⟨by rfl, by intro w'; go_simp; with_reducible rfl⟩) (by simp only [Act.put, sa_, s0_, s1_, i64_w, i32_w]; rfl) ?_
    refine pu_ 2 (some 21) HT_ rfl rfl (by kernel_rfl) (fun _ _ _ h => h) (.inl ⟨by rfl, by intro w'; go_simp; with_reducible rfl⟩) (by simp only [Act.put, sa_, s0_, s1_, i64_w, i32_w]; rfl) ?_
    refine pu_ 3 (some 22) HT_ rfl rfl (by kernel_rfl) (fun _ _ _ h => h) (.inl ⟨by rfl, by intro w'; go_simp; with_reducible rfl⟩) (by simp only [Act.put, sa_, s0_, s1_, i64_w, i32_w]; rfl) ?_
    refine pu_ 4 (some 23) HT_ rfl rfl (by kernel_rfl) (fun _ _ _ h => h) (.inl ⟨by rfl, by intro w'; go_simp; with_reducible rfl⟩) (by simp only [Act.put, sa_, s0_, s1_, i64_w, i32_w]; rfl) ?_
    refine pu_ 5 (some 24) HT_ rfl rfl (by kernel_rfl) (fun _ _ _ h => h) (.inl ⟨by rfl, by intro w'; go_simp; with_reducible rfl⟩) (by simp only [Act.put, sa_, s0_, s1_, i64_w, i32_w]; rfl) ?_
    refine pu_ 6 (some 25) HT_ rfl rfl (by kernel_rfl) (fun _ _ _ h => h) (.inl ⟨by rfl, by intro w'; go_simp; with_reducible rfl⟩) (by simp only [Act.put, sa_, s0_, s1_, i64_w, i32_w]; rfl) ?_
    refine pu_ 9 (some 28) HT_ rfl rfl (by kernel_rfl) (fun _ _ _ h => h) (.inl ⟨by rfl, by intro w'; go_simp; with_reducible rfl⟩) (by simp only [Act.put, sa_, s0_, s1_, i64_w, i32_w]; rfl) ?_
    refine pu_ 10 (some 29) HT_ rfl rfl (by kernel_rfl) (fun _ _ _ h => h) (.inl ⟨by rfl, by intro w'; go_simp; with_reducible rfl⟩) (by simp only [Act.put, sa_, s0_, s1_, i64_w, i32_w]; rfl) ?_
    refine pu_ 11 (some 30) HT_ rfl rfl (by kernel_rfl) (fun _ _ _ h => h) (.inl ⟨by rfl, by intro w'; go_simp; with_reducible rfl⟩) (by simp only [Act.put, sa_, s0_, s1_, i64_w, i32_w]; rfl) ?_
    refine pu_ 12 (some 31) HT_ rfl rfl (by kernel_rfl) (fun _ _ _ h => h) (.inl ⟨by rfl, by intro w'; go_simp; with_reducible rfl⟩) (by simp only [Act.put, sa_, s0_, s1_, i64_w, i32_w]; rfl) ?_
    refine pu_ 13 (some 32) HT_ rfl rfl (by kernel_rfl) (fun _ _ _ h => h) (.inl ⟨by rfl, by intro w'; go_simp; with_reducible rfl⟩) (by simp only [Act.put, sa_, s0_, s1_, i64_w, i32_w]; rfl) ?_
    refine tk_ 7 (some 26) HT_ HW_ rfl rfl (by kernel_rfl) (fun _ _ _ h => h) (.inl ⟨by rfl, by intro w' s0; go_simp; with_reducible rfl⟩) hHeld (by simp only [Act.put, sa_, s0_, s1_, i64_w, i32_w]; rfl) ?_
    refine on_ 8 (some 27) HT_ rfl rfl (by kernel_rfl) (by decide) (fun K hK => ?_)
    refine goes_ Try.func34 (by kernel_rfl) rfl #[.int .i64 (rd l0 (ji8)), .int .i64 256] (by rfl) rfl rfl (by (try simp only [List.map_toArray, List.map_cons, List.map_nil]); first | done | (simp only [hji8]; rfl) | rfl | (simp only [List.length_drop, List.length_take]; rfl)) ?_
    with_reducible refine (columbariumlaw08_pick.calls (rd l0 (ji8)) 256 tz3 _ A11.out).mono ?_
    rintro e w' ⟨rfl, ⟨nd, rfl⟩⟩
    refine ⟨_, rfl, ?_⟩
    refine hK.out _ _ (((HB.out.cell (World.block_lt_of_cell? w _ hwz2_0)).trans hwz2_0)) (fun hHeld => ?_)
    clear hK K
    refine norm_ (by show Act.put _ (some 27) _ = _; simp only [Act.put, sa_, s0_, s1_, i64_w, i32_w]; rfl) ?_
    refine pu_ 14 (some 33) HT_ rfl rfl (by kernel_rfl) (fun _ _ _ h => h) (.inl ⟨by rfl, by intro w'; go_simp; with_reducible rfl⟩) (by simp only [Act.put, sa_, s0_, s1_, i64_w, i32_w]; rfl) ?_
    refine pu_ 15 (some 34) HT_ rfl rfl (by kernel_rfl) (fun _ _ _ h => h) (.inl ⟨by rfl, by intro w'; go_simp; with_reducible rfl⟩) (by simp only [Act.put, sa_, s0_, s1_, i64_w, i32_w]; rfl) ?_
    refine pu_ 16 (some 7) HT_ rfl rfl (by kernel_rfl) (fun _ _ _ h => h) (.inl ⟨by rfl, by intro w'; go_simp; with_reducible rfl⟩) (by simp only [Act.put, sa_, s0_, s1_, i64_w, i32_w]; rfl) ?_
    refine done_ (done_of HT_.out (by kernel_rfl)) ?_
    try go_wp2
    go_meet
    case rel => exact ⟨_, (wrap64 ((wrap64 ((wrap64 (7 * x6_1)) * x6_1)) + (wrap64 (tz3 * (wrap64 (1 + (wrap64 (Int.tdiv x6_1 (l0.length : Int))))))))), (by first | rfl | (simp; done) | (simp [*]; done)), H', ⟨by have := HK1.out; first | omega | exact Nat.le_refl _⟩, ⟨by (with_reducible repeat (first | apply Kd.R_alloc | apply Kd.R_drewN | apply Kd.R_drew)); exact HO_5.out⟩, ⟨by (with_reducible repeat (first | refine blk_drewN ?_ _ | refine blk_drew ?_ | refine blk_alloc ?_ _)); exact BKz1.out⟩, ⟨by repeat (first | (with_reducible first | exact HB.out | apply below_alloc | apply pw_below_drewN | apply below_drew1 | refine below_set ?_ GEz1.out) | exact HB.out)⟩⟩
   case rest =>
    clear HC5
    try clear c1
    try clear c2
    try clear p2
    try clear q2
    try clear hx2
    try clear c3
    try clear c4
    try clear c4b0
    try clear c6
    try clear c6b0
    try clear c6b1
    try clear p6
    try clear c7
    try clear c7b0
    try clear c7b1
    try clear c7b2
    try clear c9
    try clear c9b0
    try clear c10
    try clear c10b0
    try clear hxz2_0
    try clear p2
    try clear pz2
    try clear qz2
    obtain ⟨kq, x7_4, rfl, HA, HJ4, HO_5, BKz1, HB⟩ := hcut
    cases kq with
    | zero => exact absurd HA.out (by simp [columbariumlaw08_Draws.j1])
    | succ kj4 =>
     have H := HA.out
     clear HA
     simp only [columbariumlaw08_Draws.j1] at H
     by_cases c13 : a1 = true
     rotate_left
     ·replace c13 := Bool.eq_false_iff.mpr c13
      subst c13
      have H1 : (if x5_1.length < 140737488355328 then (columbariumlaw08_Draws.l0 kj4 l0 false (x5_1 ++ [(x7_4) % 256]) (wrap64 (x6_1 + 1))) else (none)) = some (r1, r2) := by rw [if_neg (show ¬ (false = true) by decide)] at H; exact H
      clear H
      have H := H1
      clear H1
      by_cases c27 : x5_1.length < 140737488355328
      rotate_left
      ·rw [if_neg c27] at H
       exact absurd H (by simp)
      rw [if_pos c27] at H
      have LMc27 := Aside0.mk c27
      clear c27
      obtain ⟨yz15, hyz15⟩ : ∃ y_ : List Int, y_ = (x5_1 ++ [(x7_4) % 256]) := ⟨_, rfl⟩
      replace H : (columbariumlaw08_Draws.l0 kj4 l0 false yz15 (wrap64 (x6_1 + 1))) = some (r1, r2) := by first | (rw [hyz15]; with_reducible exact H) | (have H2_ := (Option.bind_some _ _).symm.trans H; rw [hyz15]; with_reducible exact H2_) | (have H2_ := (Option.bind_some _ _).symm.trans H; with_reducible exact H2_) | with_reducible exact H | (rw [hyz15]; exact H) | exact H
      have Nyz15 := am hyz15
      clear hyz15
      have H' := am H
      clear H
      go_wp2_with (first | ((with_reducible refine gate_builtin (b := .append) (xs := #[.tmp 53, .tmp 56]) rfl ?_); (try (refine gate_guard (by rfl) ?_; dsimp only)); at_builtin; refine Kd.R_append (Kd.int .u8) (w0 := w) w.heap.size rfl (.tmp 53) (.tmp 56) 57 5 (.int .u8 0) 1 rfl Try.underlying57 info5 rfl (by decide) (by omega) u5 x5_1 ((x7_4) % 256) [.int .u8 ((x7_4) % 256)] (fun _ => True) (fun _ => False) rfl rfl ?aP (fun _ hk => hk.elim) ?aF ?aO ?aB ?aS ?aL ?_; (case aP => exact rfl); (case aB => exact (by repeat (first | (with_reducible first | exact HB.out | apply below_alloc | apply pw_below_drewN | apply below_drew1 | refine below_set ?_ GEz1.out) | exact HB.out))); (case aF => exact (fun _ _ => trivial)); (case aO => exact (pr HO_5)); (case aS => exact (below_size (by repeat (first | (with_reducible first | exact HB.out | apply below_alloc | apply pw_below_drewN | apply below_drew1 | refine below_set ?_ GEz1.out) | exact HB.out)))); (case aL => have := LMc27.out; omega); intro vz16 w28 ho hb hg hat; rw [← Nyz15.out] at ho; have n0_ := am (blk_grown (g := gbz1) (o := .cells #[.string (⟨#[]⟩ : ByteArray), .int .i64 0] 23 (0, 0)) (pk BKz1) hg (Kd.R_ne HO_5.out BKz1.out (by decide))); have n1_ := am (hb); have n2_ := am (ho); clear BKz1; clear HB; clear HO_5; have BKz1 := n0_; have HB := n1_; have HOz17 := n2_; clear n0_ n1_ n2_; clear ho hb hg hat))
      go_roundg kj4
      case measure => have := HK1.out; have := HJ4.out; omega
      case rel => exact ⟨(yz15), (wrap64 (x6_1 + 1)), (by first | rfl | (simp; done) | (simp [*]; done)), H', ⟨by have := HK1.out; have := HJ4.out; omega⟩, ⟨by (with_reducible repeat (first | apply Kd.R_alloc | apply Kd.R_drewN | apply Kd.R_drew)); exact HOz17.out⟩, ⟨by (with_reducible repeat (first | refine blk_drewN ?_ _ | refine blk_drew ?_ | refine blk_alloc ?_ _)); exact BKz1.out⟩, ⟨by repeat (first | (with_reducible first | exact HB.out | apply below_alloc | apply pw_below_drewN | apply below_drew1 | refine below_set ?_ GEz1.out) | exact HB.out)⟩⟩
     subst c13
     have H1 : (if (Int.tmod x6_1 8) = 0 then (if (l0.length : Int) > 0 then (if (l0.length : Int) = 0 then (none) else (if 0 ≤ (Int.tmod (wrap64 (Int.tdiv x6_1 8)) (l0.length : Int)) then (if (Int.tmod (wrap64 (Int.tdiv x6_1 8)) (l0.length : Int)) < (l0.length : Int) then ((columbariumlaw08_pick.f (rd l0 (Int.tmod (wrap64 (Int.tdiv x6_1 8)) (l0.length : Int))) 3).bind fun tz5 => (if x5_1.length < 140737488355328 then (columbariumlaw08_Draws.l0 kj4 l0 true (x5_1 ++ [(tz5) % 256]) (wrap64 (x6_1 + 1))) else (none))) else (none)) else (none))) else (if x5_1.length < 140737488355328 then (columbariumlaw08_Draws.l0 kj4 l0 true (x5_1 ++ [0]) (wrap64 (x6_1 + 1))) else (none))) else (if x5_1.length < 140737488355328 then (columbariumlaw08_Draws.l0 kj4 l0 true (x5_1 ++ [0]) (wrap64 (x6_1 + 1))) else (none))) = some (r1, r2) := by rw [if_pos rfl] at H; exact H
     clear H
     have H := H1
     clear H1
     by_cases c14 : (Int.tmod x6_1 8) = 0
     rotate_left
     ·rw [if_neg c14] at H
      have c14b0 : ((Int.tmod x6_1 8) == 0) = false := beq_eq_false_iff_ne.mpr c14
      have c14b1 : ((Int.tmod x6_1 8) != 0) = true := bne_iff_ne.mpr c14
      by_cases c25 : x5_1.length < 140737488355328
      rotate_left
      ·rw [if_neg c25] at H
       exact absurd H (by simp)
      rw [if_pos c25] at H
      have LMc25 := Aside0.mk c25
      clear c25
      obtain ⟨yz12, hyz12⟩ : ∃ y_ : List Int, y_ = (x5_1 ++ [0]) := ⟨_, rfl⟩
      replace H : (columbariumlaw08_Draws.l0 kj4 l0 true yz12 (wrap64 (x6_1 + 1))) = some (r1, r2) := by first | (rw [hyz12]; with_reducible exact H) | (have H2_ := (Option.bind_some _ _).symm.trans H; rw [hyz12]; with_reducible exact H2_) | (have H2_ := (Option.bind_some _ _).symm.trans H; with_reducible exact H2_) | with_reducible exact H | (rw [hyz12]; exact H) | exact H
      have Nyz12 := am hyz12
      clear hyz12
      have H' := am H
      clear H
      go_wp2_with (first | ((with_reducible refine gate_builtin (b := .append) (xs := #[.tmp 53, .tmp 56]) rfl ?_); (try (refine gate_guard (by rfl) ?_; dsimp only)); at_builtin; refine Kd.R_append (Kd.int .u8) (w0 := w) w.heap.size rfl (.tmp 53) (.tmp 56) 57 5 (.int .u8 0) 1 rfl Try.underlying57 info5 rfl (by decide) (by omega) u5 x5_1 0 [.int .u8 0] (fun _ => True) (fun _ => False) rfl rfl ?aP (fun _ hk => hk.elim) ?aF ?aO ?aB ?aS ?aL ?_; (case aP => exact rfl); (case aB => exact (by repeat (first | (with_reducible first | exact HB.out | apply below_alloc | apply pw_below_drewN | apply below_drew1 | refine below_set ?_ GEz1.out) | exact HB.out))); (case aF => exact (fun _ _ => trivial)); (case aO => exact (pr HO_5)); (case aS => exact (below_size (by repeat (first | (with_reducible first | exact HB.out | apply below_alloc | apply pw_below_drewN | apply below_drew1 | refine below_set ?_ GEz1.out) | exact HB.out)))); (case aL => have := LMc25.out; omega); intro vz13 w26 ho hb hg hat; rw [← Nyz12.out] at ho; have n0_ := am (blk_grown (g := gbz1) (o := .cells #[.string (⟨#[]⟩ : ByteArray), .int .i64 0] 23 (0, 0)) (pk BKz1) hg (Kd.R_ne HO_5.out BKz1.out (by decide))); have n1_ := am (hb); have n2_ := am (ho); clear BKz1; clear HB; clear HO_5; have BKz1 := n0_; have HB := n1_; have HOz14 := n2_; clear n0_ n1_ n2_; clear ho hb hg hat))
      go_roundg kj4
      case measure => have := HK1.out; have := HJ4.out; omega
      case rel => exact ⟨(yz12), (wrap64 (x6_1 + 1)), (by first | rfl | (simp; done) | (simp [*]; done)), H', ⟨by have := HK1.out; have := HJ4.out; omega⟩, ⟨by (with_reducible repeat (first | apply Kd.R_alloc | apply Kd.R_drewN | apply Kd.R_drew)); exact HOz14.out⟩, ⟨by (with_reducible repeat (first | refine blk_drewN ?_ _ | refine blk_drew ?_ | refine blk_alloc ?_ _)); exact BKz1.out⟩, ⟨by repeat (first | (with_reducible first | exact HB.out | apply below_alloc | apply pw_below_drewN | apply below_drew1 | refine below_set ?_ GEz1.out) | exact HB.out)⟩⟩
     rw [if_pos c14] at H
     have c14b0 : ((Int.tmod x6_1 8) == 0) = true := beq_iff_eq.mpr c14
     have c14b1 : ((Int.tmod x6_1 8) != 0) = false := bne_eq_false_iff_eq.mpr c14
     clear c14
     by_cases c15 : (l0.length : Int) > 0
     rotate_left
     ·rw [if_neg c15] at H
      have c15b0 : decide (0 < (l0.length : Int)) = false := decide_eq_false c15
      have c15b1 : decide (0 < l0.length) = false := decide_eq_false (by omega)
      clear c15
      by_cases c23 : x5_1.length < 140737488355328
      rotate_left
      ·rw [if_neg c23] at H
       exact absurd H (by simp)
      rw [if_pos c23] at H
      have LMc23 := Aside0.mk c23
      clear c23
      obtain ⟨yz9, hyz9⟩ : ∃ y_ : List Int, y_ = (x5_1 ++ [0]) := ⟨_, rfl⟩
      replace H : (columbariumlaw08_Draws.l0 kj4 l0 true yz9 (wrap64 (x6_1 + 1))) = some (r1, r2) := by first | (rw [hyz9]; with_reducible exact H) | (have H2_ := (Option.bind_some _ _).symm.trans H; rw [hyz9]; with_reducible exact H2_) | (have H2_ := (Option.bind_some _ _).symm.trans H; with_reducible exact H2_) | with_reducible exact H | (rw [hyz9]; exact H) | exact H
      have Nyz9 := am hyz9
      clear hyz9
      have H' := am H
      clear H
      go_wp2_with (first | ((with_reducible refine gate_builtin (b := .append) (xs := #[.tmp 53, .tmp 56]) rfl ?_); (try (refine gate_guard (by rfl) ?_; dsimp only)); at_builtin; refine Kd.R_append (Kd.int .u8) (w0 := w) w.heap.size rfl (.tmp 53) (.tmp 56) 57 5 (.int .u8 0) 1 rfl Try.underlying57 info5 rfl (by decide) (by omega) u5 x5_1 0 [.int .u8 0] (fun _ => True) (fun _ => False) rfl rfl ?aP (fun _ hk => hk.elim) ?aF ?aO ?aB ?aS ?aL ?_; (case aP => exact rfl); (case aB => exact (by repeat (first | (with_reducible first | exact HB.out | apply below_alloc | apply pw_below_drewN | apply below_drew1 | refine below_set ?_ GEz1.out) | exact HB.out))); (case aF => exact (fun _ _ => trivial)); (case aO => exact (pr HO_5)); (case aS => exact (below_size (by repeat (first | (with_reducible first | exact HB.out | apply below_alloc | apply pw_below_drewN | apply below_drew1 | refine below_set ?_ GEz1.out) | exact HB.out)))); (case aL => have := LMc23.out; omega); intro vz10 w24 ho hb hg hat; rw [← Nyz9.out] at ho; have n0_ := am (blk_grown (g := gbz1) (o := .cells #[.string (⟨#[]⟩ : ByteArray), .int .i64 0] 23 (0, 0)) (pk BKz1) hg (Kd.R_ne HO_5.out BKz1.out (by decide))); have n1_ := am (hb); have n2_ := am (ho); clear BKz1; clear HB; clear HO_5; have BKz1 := n0_; have HB := n1_; have HOz11 := n2_; clear n0_ n1_ n2_; clear ho hb hg hat))
      go_roundg kj4
      case measure => have := HK1.out; have := HJ4.out; omega
      case rel => exact ⟨(yz9), (wrap64 (x6_1 + 1)), (by first | rfl | (simp; done) | (simp [*]; done)), H', ⟨by have := HK1.out; have := HJ4.out; omega⟩, ⟨by (with_reducible repeat (first | apply Kd.R_alloc | apply Kd.R_drewN | apply Kd.R_drew)); exact HOz11.out⟩, ⟨by (with_reducible repeat (first | refine blk_drewN ?_ _ | refine blk_drew ?_ | refine blk_alloc ?_ _)); exact BKz1.out⟩, ⟨by repeat (first | (with_reducible first | exact HB.out | apply below_alloc | apply pw_below_drewN | apply below_drew1 | refine below_set ?_ GEz1.out) | exact HB.out)⟩⟩
     rw [if_pos c15] at H
     have c15b0 : decide (0 < (l0.length : Int)) = true := decide_eq_true c15
     have c15b1 : decide (0 < l0.length) = true := decide_eq_true (by omega)
     clear c15
     by_cases c16 : (l0.length : Int) = 0
     ·rw [if_pos c16] at H
      exact absurd H (by simp)
     rw [if_neg c16] at H
     have c16b0 : ((l0.length : Int) == 0) = false := beq_eq_false_iff_ne.mpr c16
     have c16b1 : ((l0.length : Int) != 0) = true := bne_iff_ne.mpr c16
     have c16b2 : ¬ (l0 = []) := fun h_ => c16 (by rw [h_]; rfl)
     obtain ⟨ji17, hji17⟩ : ∃ j_ : Int, (Int.tmod (wrap64 (Int.tdiv x6_1 8)) (l0.length : Int)) = j_ := ⟨_, rfl⟩
     replace H : (if 0 ≤ (ji17) then (if (ji17) < (l0.length : Int) then ((columbariumlaw08_pick.f (rd l0 (ji17)) 3).bind fun tz5 => (if x5_1.length < 140737488355328 then (columbariumlaw08_Draws.l0 kj4 l0 true (x5_1 ++ [(tz5) % 256]) (wrap64 (x6_1 + 1))) else (none))) else (none)) else (none)) = some (r1, r2) := by first | (rw [hji17] at H; exact H) | (simp only [hji17] at H ⊢; exact H)
     by_cases c18 : 0 ≤ (ji17)
     rotate_left
     ·rw [if_neg c18] at H
      exact absurd H (by simp)
     rw [if_pos c18] at H
     have c18b0 : decide (0 ≤ (ji17)) = true := decide_eq_true c18
     clear c18
     by_cases c19 : (ji17) < (l0.length : Int)
     rotate_left
     ·rw [if_neg c19] at H
      exact absurd H (by simp)
     rw [if_pos c19] at H
     have c19b0 : decide ((ji17) < (l0.length : Int)) = true := decide_eq_true c19
     clear c19
     replace H := Option.bind_eq_some_iff.mp H
     obtain ⟨tz5, A200, H⟩ := H
     replace H : (if x5_1.length < 140737488355328 then (columbariumlaw08_Draws.l0 kj4 l0 true (x5_1 ++ [(tz5) % 256]) (wrap64 (x6_1 + 1))) else (none)) = some (r1, r2) := H
     have A20 := Aside0.mk A200
     clear A200
     by_cases c21 : x5_1.length < 140737488355328
     rotate_left
     ·rw [if_neg c21] at H
      exact absurd H (by simp)
     rw [if_pos c21] at H
     have LMc21 := Aside0.mk c21
     clear c21
     obtain ⟨yz6, hyz6⟩ : ∃ y_ : List Int, y_ = (x5_1 ++ [(tz5) % 256]) := ⟨_, rfl⟩
     replace H : (columbariumlaw08_Draws.l0 kj4 l0 true yz6 (wrap64 (x6_1 + 1))) = some (r1, r2) := by first | (rw [hyz6]; with_reducible exact H) | (have H2_ := (Option.bind_some _ _).symm.trans H; rw [hyz6]; with_reducible exact H2_) | (have H2_ := (Option.bind_some _ _).symm.trans H; with_reducible exact H2_) | with_reducible exact H | (rw [hyz6]; exact H) | exact H
     have Nyz6 := am hyz6
     clear hyz6
     have H' := am H
     clear H
     have pz4 : 0 ≤ ((ji17) : Int) := of_decide_eq_true (by first | (with_reducible assumption) | assumption)
     have qz4 : (ji17) < (l0.length : Int) := of_decide_eq_true (by first | (with_reducible assumption) | assumption)
     obtain ⟨adz4, ez4, hxz4_0⟩ := Kd.at_int HR0.out (ji17) pz4 qz4
     cases ez4
     replace hxz4_0 := (HB.out.cell (World.block_lt_of_cell? w _ hxz4_0)).trans hxz4_0
     replace pz4 := eq_true pz4
     replace qz4 := eq_true qz4
     go_wp2_with (first | ((with_reducible refine gate_callee (f := 34) rfl ?_); refine goesL_ (some 52) rfl rfl Try.func34 (by kernel_rfl) rfl #[.int .i64 (rd l0 (ji17)), .int .i64 3] rfl (by (try simp only [List.map_toArray, List.map_cons, List.map_nil]); first | done | (simp only [hji17]; rfl) | rfl | (simp only [List.length_drop, List.length_take]; rfl)) ?_; (with_reducible refine (columbariumlaw08_pick.calls (rd l0 (ji17)) 3 tz5 _ A20.out).mono ?_); rintro e w' ⟨rfl, ⟨nd, rfl⟩⟩; refine ⟨_, rfl, ?_⟩) | ((with_reducible refine gate_builtin (b := .append) (xs := #[.tmp 53, .tmp 56]) rfl ?_); (try (refine gate_guard (by rfl) ?_; dsimp only)); at_builtin; refine Kd.R_append (Kd.int .u8) (w0 := w) w.heap.size rfl (.tmp 53) (.tmp 56) 57 5 (.int .u8 0) 1 rfl Try.underlying57 info5 rfl (by decide) (by omega) u5 x5_1 ((tz5) % 256) [.int .u8 ((tz5) % 256)] (fun _ => True) (fun _ => False) rfl rfl ?aP (fun _ hk => hk.elim) ?aF ?aO ?aB ?aS ?aL ?_; (case aP => exact rfl); (case aB => exact (by repeat (first | (with_reducible first | exact HB.out | apply below_alloc | apply pw_below_drewN | apply below_drew1 | refine below_set ?_ GEz1.out) | exact HB.out))); (case aF => exact (fun _ _ => trivial)); (case aO => exact (pr HO_5)); (case aS => exact (below_size (by repeat (first | (with_reducible first | exact HB.out | apply below_alloc | apply pw_below_drewN | apply below_drew1 | refine below_set ?_ GEz1.out) | exact HB.out)))); (case aL => have := LMc21.out; omega); intro vz7 w22 ho hb hg hat; rw [← Nyz6.out] at ho; have n0_ := am (blk_grown (g := gbz1) (o := .cells #[.string (⟨#[]⟩ : ByteArray), .int .i64 0] 23 (0, 0)) (pk BKz1) hg (Kd.R_ne HO_5.out BKz1.out (by decide))); have n1_ := am (hb); have n2_ := am (ho); clear BKz1; clear HB; clear HO_5; have BKz1 := n0_; have HB := n1_; have HOz8 := n2_; clear n0_ n1_ n2_; clear ho hb hg hat))
     go_roundg kj4
     case measure => have := HK1.out; have := HJ4.out; omega
     case rel => exact ⟨(yz6), (wrap64 (x6_1 + 1)), (by first | rfl | (simp; done) | (simp [*]; done)), H', ⟨by have := HK1.out; have := HJ4.out; omega⟩, ⟨by (with_reducible repeat (first | apply Kd.R_alloc | apply Kd.R_drewN | apply Kd.R_drew)); exact HOz8.out⟩, ⟨by (with_reducible repeat (first | refine blk_drewN ?_ _ | refine blk_drew ?_ | refine blk_alloc ?_ _)); exact BKz1.out⟩, ⟨by repeat (first | (with_reducible first | exact HB.out | apply below_alloc | apply pw_below_drewN | apply below_drew1 | refine below_set ?_ GEz1.out) | exact HB.out)⟩⟩
end Go.Proofs.Ytmkncddbecmlpaa.Pr
end
section
namespace Go.Proofs.Ytmkncddbecmlpaa.Pr
open Go.Proofs.Ytmkncddbecmlpaa.Sq Go.RowKit Go.Proofs.YtmkncddbecmlpaaW.PrintWords Go.Proofs.YtmkncddbecmlpaaW.PrintLast Go.Proofs.YtmkncddbecmlpaaW.PrintMore
attribute [local go_sem] max2_int min2_int max_two min_two max_three min_three max_four min_four
set_option linter.unusedVariables false
set_option linter.unusedSimpArgs false
def columbariumlaw08_Label.f (a0 : Int) : Option (ByteArray) := (columbariumlaw08_pick.f a0 4).bind fun tz1 => ((some (([108, (tz1) % 256] : List Int) : List Int)).bind fun yz2 => (if 14 ≤ 281474976710656 then ((some (List.replicate 14 0 : List Int)).bind fun yz5 => (if (strOfNums yz2).size + (strOfNums yz5).size ≤ 9223372036854775807 then (some ((strOfNums yz2) ++ (strOfNums yz5))) else (none))) else (none)))
def columbariumlaw08_Label.T1 : Bool × List (List Nat × List Nat) := (true, [([], []), ([0], [0]), ([1], [1]), ([2], [2]), ([3], [3]), ([], []), ([5], [5]), ([4, 6], [4, 6]), ([7, 1, 0, 1, 2, 3, 4, 5, 6, 7], [7])])
def columbariumlaw08_Label.B1 : List Nat := [0, 1, 3, 7, 15, 0, 32, 127, 255]
theorem columbariumlaw08_Label.tab1 : rtab .any (opsOf Try.f39 1) = columbariumlaw08_Label.T1 := by kernel_rfl
theorem columbariumlaw08_Label.bits1 : waitsOk columbariumlaw08_Label.T1.2 columbariumlaw08_Label.B1 = true := by kernel_rfl
set_option maxHeartbeats 8000000 in
set_option maxRecDepth 100000 in
theorem columbariumlaw08_Label.calls (a0 : Int) (r : ByteArray) (w : World) (h : columbariumlaw08_Label.f a0 = some r) :
  Calls Try.prog 39 #[.int .i64 a0] w fun e w' => e = .returned (.string r) ∧ Below w.heap.size w w' := by
 have HB := am (Below.refl w.heap.size w)
 have H : ((columbariumlaw08_pick.f a0 4).bind fun tz1 => ((some (([108, (tz1) % 256] : List Int) : List Int)).bind fun yz2 => (if 14 ≤ 281474976710656 then ((some (List.replicate 14 0 : List Int)).bind fun yz5 => (if (strOfNums yz2).size + (strOfNums yz5).size ≤ 9223372036854775807 then (some ((strOfNums yz2) ++ (strOfNums yz5))) else (none))) else (none)))) = some r := h
 clear h
 replace H := Option.bind_eq_some_iff.mp H
 obtain ⟨tz1, A20, H⟩ := H
 replace H : ((some (([108, (tz1) % 256] : List Int) : List Int)).bind fun yz2 => (if 14 ≤ 281474976710656 then ((some (List.replicate 14 0 : List Int)).bind fun yz5 => (if (strOfNums yz2).size + (strOfNums yz5).size ≤ 9223372036854775807 then (some ((strOfNums yz2) ++ (strOfNums yz5))) else (none))) else (none))) = some r := H
 have A2 := Aside0.mk A20
 clear A20
 obtain ⟨yz2, hyz2⟩ : ∃ y_ : List Int, y_ = (([108, (tz1) % 256] : List Int)) := ⟨_, rfl⟩
 replace H : (if 14 ≤ 281474976710656 then ((some (List.replicate 14 0 : List Int)).bind fun yz5 => (if (strOfNums yz2).size + (strOfNums yz5).size ≤ 9223372036854775807 then (some ((strOfNums yz2) ++ (strOfNums yz5))) else (none))) else (none)) = some r := by first | (rw [hyz2]; with_reducible exact H) | (have H2_ := (Option.bind_some _ _).symm.trans H; rw [hyz2]; with_reducible exact H2_) | (have H2_ := (Option.bind_some _ _).symm.trans H; with_reducible exact H2_) | with_reducible exact H | (rw [hyz2]; exact H) | exact H
 have Nyz2 := am hyz2
 clear hyz2
 by_cases c3 : 14 ≤ 281474976710656
 rotate_left
 ·rw [if_neg c3] at H
  exact absurd H (by simp)
 rw [if_pos c3] at H
 have c3b0 := eq_true c3
 have c3b1 : decide (14 ≤ 281474976710656) = true := decide_eq_true c3
 clear c3
 obtain ⟨yz5, hyz5⟩ : ∃ y_ : List Int, y_ = (List.replicate 14 0) := ⟨_, rfl⟩
 replace H : (if (strOfNums yz2).size + (strOfNums yz5).size ≤ 9223372036854775807 then (some ((strOfNums yz2) ++ (strOfNums yz5))) else (none)) = some r := by first | (rw [hyz5]; with_reducible exact H) | (have H2_ := (Option.bind_some _ _).symm.trans H; rw [hyz5]; with_reducible exact H2_) | (have H2_ := (Option.bind_some _ _).symm.trans H; with_reducible exact H2_) | with_reducible exact H | (rw [hyz5]; exact H) | exact H
 have Nyz5 := am hyz5
 clear hyz5
 by_cases c4 : (strOfNums yz2).size + (strOfNums yz5).size ≤ 9223372036854775807
 rotate_left
 ·rw [if_neg c4] at H
  exact absurd H (by simp)
 rw [if_pos c4] at H
 have c4b0 := eq_true c4
 have c4b1 : decide ((strOfNums yz2).size + (strOfNums yz5).size ≤ 9223372036854775807) = true := decide_eq_true c4
 try have c4b2 : (9223372036854775807 < (strOfNums yz2).size + (strOfNums yz5).size) = False := eq_false (Nat.not_lt.2 c4)
 obtain ⟨sx5, hsx5⟩ : ∃ s_ : ByteArray, ((strOfNums yz2) ++ (strOfNums yz5)) = s_ := ⟨_, rfl⟩
 replace H : (some sx5) = some r := by first | (rw [hsx5] at H; exact H) | (simp only [hsx5] at H ⊢; exact H) | exact H
 obtain rfl := Option.some.inj H
 go_enter Try.func39, Try.ntmps39
 try go_wp2
 have n0_ := am (below_drew1 HB.out)
 clear HB; have HB := n0_; clear n0_
 refine start_ (n := 9) (S := fun w' => True) (ds := []) #[false, false, false, false, false, false, false, false, false] (by kernel_rfl) rfl rfl trivial (fun hHeld => ?_); refine with_tabW columbariumlaw08_Label.tab1 columbariumlaw08_Label.bits1 (fun HT_ HW_ => ?_)
 generalize w.drew = w6 at HB hHeld ⊢
 refine pu_ 0 (some 3) HT_ rfl rfl (by kernel_rfl) (fun _ _ _ h => h) (.inl ⟨by rfl, by intro w'; go_simp; with_reducible rfl⟩) (by simp only [Act.put, sa_, s0_, s1_, i64_w, i32_w]; rfl) ?_
 refine join_ (σ := Value × Value) 2 #[true, true, true, true, true, true, true, false, false] (fun s_ => [(4, .int .i64 tz1), (6, s_.1), (7, .string (strOfNums yz2)), (8, s_.2), (9, .string (strOfNums yz5)), (5, .int .u8 ((tz1) % 256))]) (fun s_ w' => (Kd.R (Kd.int .u8) 5 w' w.heap.size (fun k_ => some k_ ≠ (s_.2 : Value).ownBlock) s_.1 yz2) ∧ (Kd.R (Kd.int .u8) 5 w' w.heap.size (fun k_ => some k_ ≠ (s_.1 : Value).ownBlock) s_.2 yz5) ∧ (Below w.heap.size w w')) ?_ ?_
 rotate_left
 ·intro hJ1_3_4_5_6
  refine join_ (σ := Value × Value) 3 #[true, true, true, true, true, true, false, false, false] (fun s_ => [(4, .int .i64 tz1), (6, s_.1), (7, .string (strOfNums yz2)), (8, s_.2), (5, .int .u8 ((tz1) % 256))]) (fun s_ w' => (Kd.R (Kd.int .u8) 5 w' w.heap.size (fun k_ => some k_ ≠ (s_.2 : Value).ownBlock) s_.1 yz2) ∧ (Kd.R (Kd.int .u8) 5 w' w.heap.size (fun k_ => some k_ ≠ (s_.1 : Value).ownBlock) s_.2 yz5) ∧ (Below w.heap.size w w')) ?_ ?_
  rotate_left
  ·intro hJ1_3_4_5
   refine join_ (σ := Value × Value) 3 #[true, true, true, true, false, true, true, false, false] (fun s_ => [(4, .int .i64 tz1), (6, s_.1), (8, s_.2), (9, .string (strOfNums yz5)), (5, .int .u8 ((tz1) % 256))]) (fun s_ w' => (Kd.R (Kd.int .u8) 5 w' w.heap.size (fun k_ => some k_ ≠ (s_.2 : Value).ownBlock) s_.1 yz2) ∧ (Kd.R (Kd.int .u8) 5 w' w.heap.size (fun k_ => some k_ ≠ (s_.1 : Value).ownBlock) s_.2 yz5) ∧ (Below w.heap.size w w')) ?_ ?_
   rotate_left
   ·intro hJ1_3_5_6
    refine join_ (σ := Value) 4 #[true, true, true, true, true, false, false, false, false] (fun s_ => [(4, .int .i64 tz1), (6, s_), (7, .string (strOfNums yz2)), (5, .int .u8 ((tz1) % 256))]) (fun s_ w' => (Kd.R (Kd.int .u8) 5 w' w.heap.size (fun _ => True) s_ yz2) ∧ (Below w.heap.size w w')) ?_ ?_
    rotate_left
    ·intro hJ1_3_4
     refine join_ (σ := Value × Value) 4 #[true, true, true, true, false, true, false, false, false] (fun s_ => [(4, .int .i64 tz1), (6, s_.1), (8, s_.2), (5, .int .u8 ((tz1) % 256))]) (fun s_ w' => (Kd.R (Kd.int .u8) 5 w' w.heap.size (fun k_ => some k_ ≠ (s_.2 : Value).ownBlock) s_.1 yz2) ∧ (Kd.R (Kd.int .u8) 5 w' w.heap.size (fun k_ => some k_ ≠ (s_.1 : Value).ownBlock) s_.2 yz5) ∧ (Below w.heap.size w w')) ?_ ?_
     rotate_left
     ·intro hJ1_3_5
      refine join_ (σ := Value) 4 #[true, true, true, false, false, true, true, false, false] (fun s_ => [(4, .int .i64 tz1), (8, s_), (9, .string (strOfNums yz5)), (5, .int .u8 ((tz1) % 256))]) (fun s_ w' => (Kd.R (Kd.int .u8) 5 w' w.heap.size (fun _ => True) s_ yz5) ∧ (Below w.heap.size w w')) ?_ ?_
      rotate_left
      ·intro hJ1_5_6
       refine join_ (σ := Value) 5 #[true, true, true, true, false, false, false, false, false] (fun s_ => [(4, .int .i64 tz1), (6, s_), (5, .int .u8 ((tz1) % 256))]) (fun s_ w' => (Kd.R (Kd.int .u8) 5 w' w.heap.size (fun _ => True) s_ yz2) ∧ (Below w.heap.size w w')) ?_ ?_
       rotate_left
       ·intro hJ1_3
        refine join_ (σ := Value) 5 #[true, true, true, false, false, true, false, false, false] (fun s_ => [(4, .int .i64 tz1), (8, s_), (5, .int .u8 ((tz1) % 256))]) (fun s_ w' => (Kd.R (Kd.int .u8) 5 w' w.heap.size (fun _ => True) s_ yz5) ∧ (Below w.heap.size w w')) ?_ ?_
        rotate_left
        ·intro hJ1_5
         refine join_ (σ := Value) 6 #[true, false, false, false, false, true, true, false, false] (fun s_ => [(8, s_), (9, .string (strOfNums yz5))]) (fun s_ w' => (Kd.R (Kd.int .u8) 5 w' w.heap.size (fun _ => True) s_ yz5) ∧ (Below w.heap.size w w')) ?_ ?_
         rotate_left
         ·intro hJ5_6
          refine join_ (σ := Unit) 6 #[true, true, true, false, false, false, false, false, false] (fun s_ => [(4, .int .i64 tz1), (5, .int .u8 ((tz1) % 256))]) (fun s_ w' => (Below w.heap.size w w')) ?_ ?_
          rotate_left
          ·intro hJ1
           refine join_ (σ := Value) 7 #[true, false, false, false, false, true, false, false, false] (fun s_ => [(8, s_)]) (fun s_ w' => (Kd.R (Kd.int .u8) 5 w' w.heap.size (fun _ => True) s_ yz5) ∧ (Below w.heap.size w w')) ?_ ?_
           rotate_left
           ·intro hJ5
            refine two_ (i := 1) (j := 5) (Ni := some 4) (Nj := some 8) #[true, true, false, false, false, false, false, false, false] #[true, false, false, false, false, true, false, false, false] rfl rfl rfl rfl (two_of HT_.out (by kernel_rfl)) (by decide) (by decide) (fun K hK => ?_) (fun K hK => ?_)
            ·skip
             refine goes_ Try.func34 (by kernel_rfl) rfl #[.int .i64 a0, .int .i64 4] (by rfl) rfl rfl (by (try simp only [List.map_toArray, List.map_cons, List.map_nil]); first | done | rfl | (simp only [List.length_drop, List.length_take]; rfl)) ?_
             with_reducible refine (columbariumlaw08_pick.calls a0 4 tz1 _ A2.out).mono ?_
             rintro e w' ⟨rfl, ⟨nd, rfl⟩⟩
             refine ⟨_, rfl, ?_⟩
             refine hK.out _ _ trivial (fun hHeld => ?_)
             clear hK K
             refine norm_ (by show Act.put _ (some 4) _ = _; simp only [Act.put, sa_, s0_, s1_, i64_w, i32_w]; rfl) ?_
             refine pu_ 2 (some 5) HT_ rfl rfl (by kernel_rfl) (fun _ _ _ h => h) (.inl ⟨by rfl, by intro w'; go_simp; with_reducible rfl⟩) (by simp only [Act.put, sa_, s0_, s1_, i64_w, i32_w]; rfl) ?_
             exact norm_ (by simp only [putAll, Act.put, sa_, s0_, s1_] <;> rfl) (hJ1 () _ (pb HB))
            skip
            refine Kd.R_make_step (Kd.int .u8) _ 5 (by rfl) (N := 8) rfl 57 _ _ rfl 14 rfl rfl Try.underlying57 (.int .u8 0) 1 info5 rfl (by decide) (by omega) 0 (ok := fun _ => True) (okp := fun _ => True) rfl (fun _ hk => hk) trivial (by omega) (by omega) (Below.refl _ _) (Nat.le_refl _) ?_
            intro vz6 w7 ho8 hb hg_ hnew_
            clear hg_ hnew_
            (first | rw [← Nyz5.out] at ho8 | (simp only [Int.reduceToNat] at ho8; rw [← Nyz5.out] at ho8))
            have n0_ := am (Kd.R_lower ho8 (below_size (pb HB)))
            have n1_ := am (below_step (pb HB) hb)
            clear HB; have HOz7 := n0_; have HB := n1_; clear n0_ n1_; clear hb ho8
            refine hK.out _ _ trivial (fun hHeld => ?_)
            clear hK K
            refine norm_ (by show Act.put _ (some 8) _ = _; simp only [Act.put, sa_, s0_, s1_, i64_w, i32_w]; rfl) ?_
            exact norm_ (by simp only [putAll, Act.put, sa_, s0_, s1_] <;> rfl) (hJ5 (vz6) _ ⟨(pr HOz7), (pb HB)⟩)
           ·skip
            rintro vz6 w9 ⟨h0_, h1_⟩
            have n0_ : Aside0 (Kd.R (Kd.int .u8) 5 w9 w.heap.size (fun _ => True) vz6 yz5) := ⟨h0_⟩
            have n1_ : Aside0 (Below w.heap.size w w9) := ⟨h1_⟩
            clear HB h0_ h1_; have HOz7 := n0_; have HB := n1_; clear n0_ n1_
            have hHeld := trivial
            refine norm_ (by simp only [putAll, Act.put, List.setIfInBounds_toArray, List.set_cons_zero, List.set_cons_succ]; rfl) ?_
            refine two_ (i := 1) (j := 6) (Ni := some 4) (Nj := some 9) #[true, true, false, false, false, true, false, false, false] #[true, false, false, false, false, true, true, false, false] rfl rfl rfl rfl (two_of HT_.out (by kernel_rfl)) (by decide) (by decide) (fun K hK => ?_) (fun K hK => ?_)
            rotate_left
            ·skip
             have hcv10 := own_string (P := Try.prog) Try.underlying57 Try.underlying5 Try.underlying9 (Kd.own_of_R HOz7.out)
             refine value_ (w1 := ?_) (v := ?_) (by rfl) rfl ?_ ?_
             rotate_left 2
             ·go_simp
              constructor
              rotate_left
              ·rfl
              rfl
             clear hcv10
             refine hK.out _ _ trivial (fun hHeld => ?_)
             clear hK K
             refine norm_ (by show Act.put _ (some 9) _ = _; simp only [Act.put, sa_, s0_, s1_, i64_w, i32_w]; rfl) ?_
             exact norm_ (by simp only [putAll, Act.put, sa_, s0_, s1_] <;> rfl) (hJ5_6 (vz6) _ ⟨(pr HOz7), (pb HB)⟩)
            skip
            refine goes_ Try.func34 (by kernel_rfl) rfl #[.int .i64 a0, .int .i64 4] (by rfl) rfl rfl (by (try simp only [List.map_toArray, List.map_cons, List.map_nil]); first | done | rfl | (simp only [List.length_drop, List.length_take]; rfl)) ?_
            with_reducible refine (columbariumlaw08_pick.calls a0 4 tz1 _ A2.out).mono ?_
            rintro e w' ⟨rfl, ⟨nd, rfl⟩⟩
            refine ⟨_, rfl, ?_⟩
            refine hK.out _ _ trivial (fun hHeld => ?_)
            clear hK K
            refine norm_ (by show Act.put _ (some 4) _ = _; simp only [Act.put, sa_, s0_, s1_, i64_w, i32_w]; rfl) ?_
            refine pu_ 2 (some 5) HT_ rfl rfl (by kernel_rfl) (fun _ _ _ h => h) (.inl ⟨by rfl, by intro w'; go_simp; with_reducible rfl⟩) (by simp only [Act.put, sa_, s0_, s1_, i64_w, i32_w]; rfl) ?_
            exact norm_ (by simp only [putAll, Act.put, sa_, s0_, s1_] <;> rfl) (hJ1_5 (vz6) _ ⟨(pr HOz7), (pb HB)⟩)
          ·skip
           rintro _ w7 h0_
           have n0_ : Aside0 (Below w.heap.size w w7) := ⟨h0_⟩
           clear HB h0_; have HB := n0_; clear n0_
           have hHeld := trivial
           refine norm_ (by simp only [putAll, Act.put, List.setIfInBounds_toArray, List.set_cons_zero, List.set_cons_succ]; rfl) ?_
           refine two_ (i := 3) (j := 5) (Ni := some 6) (Nj := some 8) #[true, true, true, true, false, false, false, false, false] #[true, true, true, false, false, true, false, false, false] rfl rfl rfl rfl (two_of HT_.out (by kernel_rfl)) (by decide) (by decide) (fun K hK => ?_) (fun K hK => ?_)
           rotate_left
           ·skip
            refine Kd.R_make_step (Kd.int .u8) _ 5 (by rfl) (N := 8) rfl 57 _ _ rfl 14 rfl rfl Try.underlying57 (.int .u8 0) 1 info5 rfl (by decide) (by omega) 0 (ok := fun _ => True) (okp := fun _ => True) rfl (fun _ hk => hk) trivial (by omega) (by omega) (Below.refl _ _) (Nat.le_refl _) ?_
            intro vz6 w8 ho9 hb hg_ hnew_
            clear hg_ hnew_
            (first | rw [← Nyz5.out] at ho9 | (simp only [Int.reduceToNat] at ho9; rw [← Nyz5.out] at ho9))
            have n0_ := am (Kd.R_lower ho9 (below_size (pb HB)))
            have n1_ := am (below_step (pb HB) hb)
            clear HB; have HOz7 := n0_; have HB := n1_; clear n0_ n1_; clear hb ho9
            refine hK.out _ _ trivial (fun hHeld => ?_)
            clear hK K
            refine norm_ (by show Act.put _ (some 8) _ = _; simp only [Act.put, sa_, s0_, s1_, i64_w, i32_w]; rfl) ?_
            exact norm_ (by simp only [putAll, Act.put, sa_, s0_, s1_] <;> rfl) (hJ1_5 (vz6) _ ⟨(pr HOz7), (pb HB)⟩)
           skip
           refine Kd.R_lit_step (Kd.int .u8) _ 5 ?hg (N := 6) ?hd (xs := ([108, (tz1) % 256] : List Int)) (inner := [.int .u8 108, .int .u8 ((tz1) % 256)]) (ok := fun _ => True) (okp := fun _ => True) ?hr ?hp (fun _ hk => hk) trivial (Below.refl _ _) (Nat.le_refl _) (by simp) ?_; (case hd => rfl); (case hg => rfl); (case hr => first | (go_simp; done) | (go_simp; rfl)); (case hp => exact (Reps.one (show Kd.M (Kd.int .u8) _ _ _ 108 [.int .u8 108] from rfl) (Reps.one (show Kd.M (Kd.int .u8) _ _ _ ((tz1) % 256) [.int .u8 ((tz1) % 256)] from rfl) (Reps.none _ _))))
           intro vz3 w8 ho9 hb hg_ hnew_
           clear hg_ hnew_
           (first | rw [← Nyz2.out] at ho9 | (simp only [Int.reduceToNat] at ho9; rw [← Nyz2.out] at ho9))
           have n0_ := am (Kd.R_lower ho9 (below_size (pb HB)))
           have n1_ := am (below_step (pb HB) hb)
           clear HB; have HOz4 := n0_; have HB := n1_; clear n0_ n1_; clear hb ho9
           refine hK.out _ _ trivial (fun hHeld => ?_)
           clear hK K
           refine norm_ (by show Act.put _ (some 6) _ = _; simp only [Act.put, sa_, s0_, s1_, i64_w, i32_w]; rfl) ?_
           exact norm_ (by simp only [putAll, Act.put, sa_, s0_, s1_] <;> rfl) (hJ1_3 (vz3) _ ⟨(pr HOz4), (pb HB)⟩)
         ·skip
          rintro vz6 w10 ⟨h0_, h1_⟩
          have n0_ : Aside0 (Kd.R (Kd.int .u8) 5 w10 w.heap.size (fun _ => True) vz6 yz5) := ⟨h0_⟩
          have n1_ : Aside0 (Below w.heap.size w w10) := ⟨h1_⟩
          clear HB h0_ h1_; have HOz7 := n0_; have HB := n1_; clear n0_ n1_
          have hHeld := trivial
          refine norm_ (by simp only [putAll, Act.put, List.setIfInBounds_toArray, List.set_cons_zero, List.set_cons_succ]; rfl) ?_
          refine on_ 1 (some 4) HT_ rfl rfl (by kernel_rfl) (by decide) (fun K hK => ?_)
          refine goes_ Try.func34 (by kernel_rfl) rfl #[.int .i64 a0, .int .i64 4] (by rfl) rfl rfl (by (try simp only [List.map_toArray, List.map_cons, List.map_nil]); first | done | rfl | (simp only [List.length_drop, List.length_take]; rfl)) ?_
          with_reducible refine (columbariumlaw08_pick.calls a0 4 tz1 _ A2.out).mono ?_
          rintro e w' ⟨rfl, ⟨nd, rfl⟩⟩
          refine ⟨_, rfl, ?_⟩
          refine hK.out _ _ trivial (fun hHeld => ?_)
          clear hK K
          refine norm_ (by show Act.put _ (some 4) _ = _; simp only [Act.put, sa_, s0_, s1_, i64_w, i32_w]; rfl) ?_
          refine pu_ 2 (some 5) HT_ rfl rfl (by kernel_rfl) (fun _ _ _ h => h) (.inl ⟨by rfl, by intro w'; go_simp; with_reducible rfl⟩) (by simp only [Act.put, sa_, s0_, s1_, i64_w, i32_w]; rfl) ?_
          exact norm_ (by simp only [putAll, Act.put, sa_, s0_, s1_] <;> rfl) (hJ1_5_6 (vz6) _ ⟨(pr HOz7), (pb HB)⟩)
        ·skip
         rintro vz6 w9 ⟨h0_, h1_⟩
         have n0_ : Aside0 (Kd.R (Kd.int .u8) 5 w9 w.heap.size (fun _ => True) vz6 yz5) := ⟨h0_⟩
         have n1_ : Aside0 (Below w.heap.size w w9) := ⟨h1_⟩
         clear HB h0_ h1_; have HOz7 := n0_; have HB := n1_; clear n0_ n1_
         have hHeld := trivial
         refine norm_ (by simp only [putAll, Act.put, List.setIfInBounds_toArray, List.set_cons_zero, List.set_cons_succ]; rfl) ?_
         refine two_ (i := 3) (j := 6) (Ni := some 6) (Nj := some 9) #[true, true, true, true, false, true, false, false, false] #[true, true, true, false, false, true, true, false, false] rfl rfl rfl rfl (two_of HT_.out (by kernel_rfl)) (by decide) (by decide) (fun K hK => ?_) (fun K hK => ?_)
         rotate_left
         ·skip
          have hcv10 := own_string (P := Try.prog) Try.underlying57 Try.underlying5 Try.underlying9 (Kd.own_of_R HOz7.out)
          refine value_ (w1 := ?_) (v := ?_) (by rfl) rfl ?_ ?_
          rotate_left 2
          ·go_simp
           constructor
           rotate_left
           ·rfl
           rfl
          clear hcv10
          refine hK.out _ _ trivial (fun hHeld => ?_)
          clear hK K
          refine norm_ (by show Act.put _ (some 9) _ = _; simp only [Act.put, sa_, s0_, s1_, i64_w, i32_w]; rfl) ?_
          exact norm_ (by simp only [putAll, Act.put, sa_, s0_, s1_] <;> rfl) (hJ1_5_6 (vz6) _ ⟨(pr HOz7), (pb HB)⟩)
         skip
         refine Kd.R_lit_step (Kd.int .u8) _ 5 ?hg (N := 6) ?hd (xs := ([108, (tz1) % 256] : List Int)) (inner := [.int .u8 108, .int .u8 ((tz1) % 256)]) (ok := fun _ => True) (okp := fun _ => True) ?hr ?hp (fun _ hk => hk) trivial (Below.refl _ _) (Nat.le_refl _) (by simp) ?_; (case hd => rfl); (case hg => rfl); (case hr => first | (go_simp; done) | (go_simp; rfl)); (case hp => exact (Reps.one (show Kd.M (Kd.int .u8) _ _ _ 108 [.int .u8 108] from rfl) (Reps.one (show Kd.M (Kd.int .u8) _ _ _ ((tz1) % 256) [.int .u8 ((tz1) % 256)] from rfl) (Reps.none _ _))))
         intro vz3 w10 ho11 hb hg_ hnew_
         clear hg_ hnew_
         (first | rw [← Nyz2.out] at ho11 | (simp only [Int.reduceToNat] at ho11; rw [← Nyz2.out] at ho11))
         have n0_ := am (Kd.R_elder' (pr HOz7) (Kd.R_base ho11) hb)
         have n1_ := am (Kd.R_lower (Kd.R_new' ho11 (Kd.R_lt (pr HOz7))) (below_size (pb HB)))
         have n2_ := am (below_step (pb HB) hb)
         clear HOz7 HB; have HOz7 := n0_; have HOz4 := n1_; have HB := n2_; clear n0_ n1_ n2_; clear hb ho11
         refine hK.out _ _ trivial (fun hHeld => ?_)
         clear hK K
         refine norm_ (by show Act.put _ (some 6) _ = _; simp only [Act.put, sa_, s0_, s1_, i64_w, i32_w]; rfl) ?_
         exact norm_ (by simp only [putAll, Act.put, sa_, s0_, s1_] <;> rfl) (hJ1_3_5 (vz3, vz6) _ ⟨(pm HOz4 (fun _ hk => hk.2)), (pm HOz7 (fun _ hk => hk.2)), (pb HB)⟩)
       ·skip
        rintro vz3 w9 ⟨h0_, h1_⟩
        have n0_ : Aside0 (Kd.R (Kd.int .u8) 5 w9 w.heap.size (fun _ => True) vz3 yz2) := ⟨h0_⟩
        have n1_ : Aside0 (Below w.heap.size w w9) := ⟨h1_⟩
        clear HB h0_ h1_; have HOz4 := n0_; have HB := n1_; clear n0_ n1_
        have hHeld := trivial
        refine norm_ (by simp only [putAll, Act.put, List.setIfInBounds_toArray, List.set_cons_zero, List.set_cons_succ]; rfl) ?_
        refine two_ (i := 4) (j := 5) (Ni := some 7) (Nj := some 8) #[true, true, true, true, true, false, false, false, false] #[true, true, true, true, false, true, false, false, false] rfl rfl rfl rfl (two_of HT_.out (by kernel_rfl)) (by decide) (by decide) (fun K hK => ?_) (fun K hK => ?_)
        ·skip
         have hcv10 := own_string (P := Try.prog) Try.underlying57 Try.underlying5 Try.underlying9 (Kd.own_of_R HOz4.out)
         refine value_ (w1 := ?_) (v := ?_) (by rfl) rfl ?_ ?_
         rotate_left 2
         ·go_simp
          constructor
          rotate_left
          ·rfl
          rfl
         clear hcv10
         refine hK.out _ _ trivial (fun hHeld => ?_)
         clear hK K
         refine norm_ (by show Act.put _ (some 7) _ = _; simp only [Act.put, sa_, s0_, s1_, i64_w, i32_w]; rfl) ?_
         exact norm_ (by simp only [putAll, Act.put, sa_, s0_, s1_] <;> rfl) (hJ1_3_4 (vz3) _ ⟨(pr HOz4), (pb HB)⟩)
        skip
        refine Kd.R_make_step (Kd.int .u8) _ 5 (by rfl) (N := 8) rfl 57 _ _ rfl 14 rfl rfl Try.underlying57 (.int .u8 0) 1 info5 rfl (by decide) (by omega) 0 (ok := fun _ => True) (okp := fun _ => True) rfl (fun _ hk => hk) trivial (by omega) (by omega) (Below.refl _ _) (Nat.le_refl _) ?_
        intro vz6 w10 ho11 hb hg_ hnew_
        clear hg_ hnew_
        (first | rw [← Nyz5.out] at ho11 | (simp only [Int.reduceToNat] at ho11; rw [← Nyz5.out] at ho11))
        have n0_ := am (Kd.R_elder' (pr HOz4) (Kd.R_base ho11) hb)
        have n1_ := am (Kd.R_lower (Kd.R_new' ho11 (Kd.R_lt (pr HOz4))) (below_size (pb HB)))
        have n2_ := am (below_step (pb HB) hb)
        clear HOz4 HB; have HOz4 := n0_; have HOz7 := n1_; have HB := n2_; clear n0_ n1_ n2_; clear hb ho11
        refine hK.out _ _ trivial (fun hHeld => ?_)
        clear hK K
        refine norm_ (by show Act.put _ (some 8) _ = _; simp only [Act.put, sa_, s0_, s1_, i64_w, i32_w]; rfl) ?_
        exact norm_ (by simp only [putAll, Act.put, sa_, s0_, s1_] <;> rfl) (hJ1_3_5 (vz3, vz6) _ ⟨(pm HOz4 (fun _ hk => hk.2)), (pm HOz7 (fun _ hk => hk.2)), (pb HB)⟩)
      ·skip
       rintro vz6 w10 ⟨h0_, h1_⟩
       have n0_ : Aside0 (Kd.R (Kd.int .u8) 5 w10 w.heap.size (fun _ => True) vz6 yz5) := ⟨h0_⟩
       have n1_ : Aside0 (Below w.heap.size w w10) := ⟨h1_⟩
       clear HB h0_ h1_; have HOz7 := n0_; have HB := n1_; clear n0_ n1_
       have hHeld := trivial
       refine norm_ (by simp only [putAll, Act.put, List.setIfInBounds_toArray, List.set_cons_zero, List.set_cons_succ]; rfl) ?_
       refine on_ 3 (some 6) HT_ rfl rfl (by kernel_rfl) (by decide) (fun K hK => ?_)
       refine Kd.R_lit_step (Kd.int .u8) _ 5 ?hg (N := 6) ?hd (xs := ([108, (tz1) % 256] : List Int)) (inner := [.int .u8 108, .int .u8 ((tz1) % 256)]) (ok := fun _ => True) (okp := fun _ => True) ?hr ?hp (fun _ hk => hk) trivial (Below.refl _ _) (Nat.le_refl _) (by simp) ?_; (case hd => rfl); (case hg => rfl); (case hr => first | (go_simp; done) | (go_simp; rfl)); (case hp => exact (Reps.one (show Kd.M (Kd.int .u8) _ _ _ 108 [.int .u8 108] from rfl) (Reps.one (show Kd.M (Kd.int .u8) _ _ _ ((tz1) % 256) [.int .u8 ((tz1) % 256)] from rfl) (Reps.none _ _))))
       intro vz3 w11 ho12 hb hg_ hnew_
       clear hg_ hnew_
       (first | rw [← Nyz2.out] at ho12 | (simp only [Int.reduceToNat] at ho12; rw [← Nyz2.out] at ho12))
       have n0_ := am (Kd.R_elder' (pr HOz7) (Kd.R_base ho12) hb)
       have n1_ := am (Kd.R_lower (Kd.R_new' ho12 (Kd.R_lt (pr HOz7))) (below_size (pb HB)))
       have n2_ := am (below_step (pb HB) hb)
       clear HOz7 HB; have HOz7 := n0_; have HOz4 := n1_; have HB := n2_; clear n0_ n1_ n2_; clear hb ho12
       refine hK.out _ _ trivial (fun hHeld => ?_)
       clear hK K
       refine norm_ (by show Act.put _ (some 6) _ = _; simp only [Act.put, sa_, s0_, s1_, i64_w, i32_w]; rfl) ?_
       exact norm_ (by simp only [putAll, Act.put, sa_, s0_, s1_] <;> rfl) (hJ1_3_5_6 (vz3, vz6) _ ⟨(pm HOz4 (fun _ hk => hk.2)), (pm HOz7 (fun _ hk => hk.2)), (pb HB)⟩)
     ·skip
      rintro ⟨vz3, vz6⟩ w11 ⟨h0_, h1_, h2_⟩
      have n0_ : Aside0 (Kd.R (Kd.int .u8) 5 w11 w.heap.size (fun k_ => some k_ ≠ (vz6 : Value).ownBlock) vz3 yz2) := ⟨h0_⟩
      have n1_ : Aside0 (Kd.R (Kd.int .u8) 5 w11 w.heap.size (fun k_ => some k_ ≠ (vz3 : Value).ownBlock) vz6 yz5) := ⟨h1_⟩
      have n2_ : Aside0 (Below w.heap.size w w11) := ⟨h2_⟩
      clear HB h0_ h1_ h2_; have HOz4 := n0_; have HOz7 := n1_; have HB := n2_; clear n0_ n1_ n2_
      have hHeld := trivial
      refine norm_ (by simp only [putAll, Act.put, List.setIfInBounds_toArray, List.set_cons_zero, List.set_cons_succ]; rfl) ?_
      refine two_ (i := 4) (j := 6) (Ni := some 7) (Nj := some 9) #[true, true, true, true, true, true, false, false, false] #[true, true, true, true, false, true, true, false, false] rfl rfl rfl rfl (two_of HT_.out (by kernel_rfl)) (by decide) (by decide) (fun K hK => ?_) (fun K hK => ?_)
      rotate_left
      ·skip
       have hcv12 := own_string (P := Try.prog) Try.underlying57 Try.underlying5 Try.underlying9 (Kd.own_of_R HOz7.out)
       refine value_ (w1 := ?_) (v := ?_) (by rfl) rfl ?_ ?_
       rotate_left 2
       ·go_simp
        constructor
        rotate_left
        ·rfl
        rfl
       clear hcv12
       refine hK.out _ _ trivial (fun hHeld => ?_)
       clear hK K
       refine norm_ (by show Act.put _ (some 9) _ = _; simp only [Act.put, sa_, s0_, s1_, i64_w, i32_w]; rfl) ?_
       exact norm_ (by simp only [putAll, Act.put, sa_, s0_, s1_] <;> rfl) (hJ1_3_5_6 (vz3, vz6) _ ⟨(pr HOz4), (pr HOz7), (pb HB)⟩)
      skip
      have hcv12 := own_string (P := Try.prog) Try.underlying57 Try.underlying5 Try.underlying9 (Kd.own_of_R HOz4.out)
      refine value_ (w1 := ?_) (v := ?_) (by rfl) rfl ?_ ?_
      rotate_left 2
      ·go_simp
       constructor
       rotate_left
       ·rfl
       rfl
      clear hcv12
      refine hK.out _ _ trivial (fun hHeld => ?_)
      clear hK K
      refine norm_ (by show Act.put _ (some 7) _ = _; simp only [Act.put, sa_, s0_, s1_, i64_w, i32_w]; rfl) ?_
      exact norm_ (by simp only [putAll, Act.put, sa_, s0_, s1_] <;> rfl) (hJ1_3_4_5 (vz3, vz6) _ ⟨(pr HOz4), (pr HOz7), (pb HB)⟩)
    ·skip
     rintro vz3 w10 ⟨h0_, h1_⟩
     have n0_ : Aside0 (Kd.R (Kd.int .u8) 5 w10 w.heap.size (fun _ => True) vz3 yz2) := ⟨h0_⟩
     have n1_ : Aside0 (Below w.heap.size w w10) := ⟨h1_⟩
     clear HB h0_ h1_; have HOz4 := n0_; have HB := n1_; clear n0_ n1_
     have hHeld := trivial
     refine norm_ (by simp only [putAll, Act.put, List.setIfInBounds_toArray, List.set_cons_zero, List.set_cons_succ]; rfl) ?_
     refine on_ 5 (some 8) HT_ rfl rfl (by kernel_rfl) (by decide) (fun K hK => ?_)
     refine Kd.R_make_step (Kd.int .u8) _ 5 (by rfl) (N := 8) rfl 57 _ _ rfl 14 rfl rfl Try.underlying57 (.int .u8 0) 1 info5 rfl (by decide) (by omega) 0 (ok := fun _ => True) (okp := fun _ => True) rfl (fun _ hk => hk) trivial (by omega) (by omega) (Below.refl _ _) (Nat.le_refl _) ?_
     intro vz6 w11 ho12 hb hg_ hnew_
     clear hg_ hnew_
     (first | rw [← Nyz5.out] at ho12 | (simp only [Int.reduceToNat] at ho12; rw [← Nyz5.out] at ho12))
     have n0_ := am (Kd.R_elder' (pr HOz4) (Kd.R_base ho12) hb)
     have n1_ := am (Kd.R_lower (Kd.R_new' ho12 (Kd.R_lt (pr HOz4))) (below_size (pb HB)))
     have n2_ := am (below_step (pb HB) hb)
     clear HOz4 HB; have HOz4 := n0_; have HOz7 := n1_; have HB := n2_; clear n0_ n1_ n2_; clear hb ho12
     refine hK.out _ _ trivial (fun hHeld => ?_)
     clear hK K
     refine norm_ (by show Act.put _ (some 8) _ = _; simp only [Act.put, sa_, s0_, s1_, i64_w, i32_w]; rfl) ?_
     exact norm_ (by simp only [putAll, Act.put, sa_, s0_, s1_] <;> rfl) (hJ1_3_4_5 (vz3, vz6) _ ⟨(pm HOz4 (fun _ hk => hk.2)), (pm HOz7 (fun _ hk => hk.2)), (pb HB)⟩)
   ·skip
    rintro ⟨vz3, vz6⟩ w12 ⟨h0_, h1_, h2_⟩
    have n0_ : Aside0 (Kd.R (Kd.int .u8) 5 w12 w.heap.size (fun k_ => some k_ ≠ (vz6 : Value).ownBlock) vz3 yz2) := ⟨h0_⟩
    have n1_ : Aside0 (Kd.R (Kd.int .u8) 5 w12 w.heap.size (fun k_ => some k_ ≠ (vz3 : Value).ownBlock) vz6 yz5) := ⟨h1_⟩
    have n2_ : Aside0 (Below w.heap.size w w12) := ⟨h2_⟩
    clear HB h0_ h1_ h2_; have HOz4 := n0_; have HOz7 := n1_; have HB := n2_; clear n0_ n1_ n2_
    have hHeld := trivial
    refine norm_ (by simp only [putAll, Act.put, List.setIfInBounds_toArray, List.set_cons_zero, List.set_cons_succ]; rfl) ?_
    refine on_ 4 (some 7) HT_ rfl rfl (by kernel_rfl) (by decide) (fun K hK => ?_)
    have hcv13 := own_string (P := Try.prog) Try.underlying57 Try.underlying5 Try.underlying9 (Kd.own_of_R HOz4.out)
    refine value_ (w1 := ?_) (v := ?_) (by rfl) rfl ?_ ?_
    rotate_left 2
    ·go_simp
     constructor
     rotate_left
     ·rfl
     rfl
    clear hcv13
    refine hK.out _ _ trivial (fun hHeld => ?_)
    clear hK K
    refine norm_ (by show Act.put _ (some 7) _ = _; simp only [Act.put, sa_, s0_, s1_, i64_w, i32_w]; rfl) ?_
    exact norm_ (by simp only [putAll, Act.put, sa_, s0_, s1_] <;> rfl) (hJ1_3_4_5_6 (vz3, vz6) _ ⟨(pr HOz4), (pr HOz7), (pb HB)⟩)
  ·skip
   rintro ⟨vz3, vz6⟩ w12 ⟨h0_, h1_, h2_⟩
   have n0_ : Aside0 (Kd.R (Kd.int .u8) 5 w12 w.heap.size (fun k_ => some k_ ≠ (vz6 : Value).ownBlock) vz3 yz2) := ⟨h0_⟩
   have n1_ : Aside0 (Kd.R (Kd.int .u8) 5 w12 w.heap.size (fun k_ => some k_ ≠ (vz3 : Value).ownBlock) vz6 yz5) := ⟨h1_⟩
   have n2_ : Aside0 (Below w.heap.size w w12) := ⟨h2_⟩
   clear HB h0_ h1_ h2_; have HOz4 := n0_; have HOz7 := n1_; have HB := n2_; clear n0_ n1_ n2_
   have hHeld := trivial
   refine norm_ (by simp only [putAll, Act.put, List.setIfInBounds_toArray, List.set_cons_zero, List.set_cons_succ]; rfl) ?_
   refine on_ 6 (some 9) HT_ rfl rfl (by kernel_rfl) (by decide) (fun K hK => ?_)
   have hcv13 := own_string (P := Try.prog) Try.underlying57 Try.underlying5 Try.underlying9 (Kd.own_of_R HOz7.out)
   refine value_ (w1 := ?_) (v := ?_) (by rfl) rfl ?_ ?_
   rotate_left 2
   ·go_simp
    constructor
    rotate_left
    ·rfl
    rfl
   clear hcv13
   refine hK.out _ _ trivial (fun hHeld => ?_)
   clear hK K
   refine norm_ (by show Act.put _ (some 9) _ = _; simp only [Act.put, sa_, s0_, s1_, i64_w, i32_w]; rfl) ?_
   exact norm_ (by simp only [putAll, Act.put, sa_, s0_, s1_] <;> rfl) (hJ1_3_4_5_6 (vz3, vz6) _ ⟨(pr HOz4), (pr HOz7), (pb HB)⟩)
 rintro ⟨vz3, vz6⟩ w13 ⟨h0_, h1_, h2_⟩
 have n0_ : Aside0 (Kd.R (Kd.int .u8) 5 w13 w.heap.size (fun k_ => some k_ ≠ (vz6 : Value).ownBlock) vz3 yz2) := ⟨h0_⟩
 have n1_ : Aside0 (Kd.R (Kd.int .u8) 5 w13 w.heap.size (fun k_ => some k_ ≠ (vz3 : Value).ownBlock) vz6 yz5) := ⟨h1_⟩
 have n2_ : Aside0 (Below w.heap.size w w13) := ⟨h2_⟩
 clear HB h0_ h1_ h2_; have HOz4 := n0_; have HOz7 := n1_; have HB := n2_; clear n0_ n1_ n2_
 have hHeld := trivial
 refine norm_ (by simp only [putAll, Act.put, List.setIfInBounds_toArray, List.set_cons_zero, List.set_cons_succ]; rfl) ?_
 refine pu_ 7 (some 10) HT_ rfl rfl (by kernel_rfl) (fun _ _ _ h => h) (.inl ⟨by rfl, by intro w'; go_simp; with_reducible rfl⟩) (by simp only [Act.put, sa_, s0_, s1_, i64_w, i32_w]; rfl) ?_
 refine pu_ 8 (some 2) HT_ rfl rfl (by kernel_rfl) (fun _ _ _ h => h) (.inl ⟨by rfl, by intro w'; go_simp; with_reducible rfl⟩) (by simp only [Act.put, sa_, s0_, s1_, i64_w, i32_w]; rfl) ?_
 refine done_ (done_of HT_.out (by kernel_rfl)) ?_
 try go_wp2
 go_ret
 exact ⟨by first | rfl | (simp [errW_none, errW_some] <;> rfl) | (simp only [← hsx5]; first | rfl | (simp [errW_none, errW_some] <;> rfl)) | (simp [*, errW_none, errW_some] <;> rfl), by repeat (first | (with_reducible first | exact HB.out | apply below_alloc | apply pw_below_drewN | apply below_drew1) | exact HB.out)⟩
end Go.Proofs.Ytmkncddbecmlpaa.Pr
end
section
namespace Go.Proofs.Ytmkncddbecmlpaa.Pr
open Go.Proofs.Ytmkncddbecmlpaa.Sq Go.RowKit Go.Proofs.YtmkncddbecmlpaaW.PrintWords Go.Proofs.YtmkncddbecmlpaaW.PrintLast Go.Proofs.YtmkncddbecmlpaaW.PrintMore
attribute [local go_sem] max2_int min2_int max_two min_two max_three min_three max_four min_four
set_option linter.unusedVariables false
set_option linter.unusedSimpArgs false
def columbariumlaw08_Text.f (a0 : Int) : Option (ByteArray) := (columbariumlaw08_pick.f a0 5).bind fun tz1 => ((some (([(tz1) % 256] : List Int) : List Int)).bind fun yz2 => (if 23 ≤ 281474976710656 then ((some (List.replicate 23 0 : List Int)).bind fun yz5 => (if (strOfNums yz2).size + (strOfNums yz5).size ≤ 9223372036854775807 then (some ((strOfNums yz2) ++ (strOfNums yz5))) else (none))) else (none)))
def columbariumlaw08_Text.T1 : Bool × List (List Nat × List Nat) := (true, [([], []), ([0], [0]), ([1], [1]), ([2], [2]), ([3], [3]), ([], []), ([5], [5]), ([4, 6], [4, 6]), ([7, 1, 0, 1, 2, 3, 4, 5, 6, 7], [7])])
def columbariumlaw08_Text.B1 : List Nat := [0, 1, 3, 7, 15, 0, 32, 127, 255]
theorem columbariumlaw08_Text.tab1 : rtab .any (opsOf Try.f40 1) = columbariumlaw08_Text.T1 := by kernel_rfl
theorem columbariumlaw08_Text.bits1 : waitsOk columbariumlaw08_Text.T1.2 columbariumlaw08_Text.B1 = true := by kernel_rfl
set_option maxHeartbeats 8000000 in
set_option maxRecDepth 100000 in
theorem columbariumlaw08_Text.calls (a0 : Int) (r : ByteArray) (w : World) (h : columbariumlaw08_Text.f a0 = some r) :
  Calls Try.prog 40 #[.int .i64 a0] w fun e w' => e = .returned (.string r) ∧ Below w.heap.size w w' := by
 have HB := am (Below.refl w.heap.size w)
 have H : ((columbariumlaw08_pick.f a0 5).bind fun tz1 => ((some (([(tz1) % 256] : List Int) : List Int)).bind fun yz2 => (if 23 ≤ 281474976710656 then ((some (List.replicate 23 0 : List Int)).bind fun yz5 => (if (strOfNums yz2).size + (strOfNums yz5).size ≤ 9223372036854775807 then (some ((strOfNums yz2) ++ (strOfNums yz5))) else (none))) else (none)))) = some r := h
 clear h
 replace H := Option.bind_eq_some_iff.mp H
 obtain ⟨tz1, A20, H⟩ := H
 replace H : ((some (([(tz1) % 256] : List Int) : List Int)).bind fun yz2 => (if 23 ≤ 281474976710656 then ((some (List.replicate 23 0 : List Int)).bind fun yz5 => (if (strOfNums yz2).size + (strOfNums yz5).size ≤ 9223372036854775807 then (some ((strOfNums yz2) ++ (strOfNums yz5))) else (none))) else (none))) = some r := H
 have A2 := Aside0.mk A20
 clear A20
 obtain ⟨yz2, hyz2⟩ : ∃ y_ : List Int, y_ = (([(tz1) % 256] : List Int)) := ⟨_, rfl⟩
 replace H : (if 23 ≤ 281474976710656 then ((some (List.replicate 23 0 : List Int)).bind fun yz5 => (if (strOfNums yz2).size + (strOfNums yz5).size ≤ 9223372036854775807 then (some ((strOfNums yz2) ++ (strOfNums yz5))) else (none))) else (none)) = some r := by first | (rw [hyz2]; with_reducible exact H) | (have H2_ := (Option.bind_some _ _).symm.trans H; rw [hyz2]; with_reducible exact H2_) | (have H2_ := (Option.bind_some _ _).symm.trans H; with_reducible exact H2_) | with_reducible exact H | (rw [hyz2]; exact H) | exact H
 have Nyz2 := am hyz2
 clear hyz2
 by_cases c3 : 23 ≤ 281474976710656
 rotate_left
 ·rw [if_neg c3] at H
  exact absurd H (by simp)
 rw [if_pos c3] at H
 have c3b0 := eq_true c3
 have c3b1 : decide (23 ≤ 281474976710656) = true := decide_eq_true c3
 clear c3
 obtain ⟨yz5, hyz5⟩ : ∃ y_ : List Int, y_ = (List.replicate 23 0) := ⟨_, rfl⟩
 replace H : (if (strOfNums yz2).size + (strOfNums yz5).size ≤ 9223372036854775807 then (some ((strOfNums yz2) ++ (strOfNums yz5))) else (none)) = some r := by first | (rw [hyz5]; with_reducible exact H) | (have H2_ := (Option.bind_some _ _).symm.trans H; rw [hyz5]; with_reducible exact H2_) | (have H2_ := (Option.bind_some _ _).symm.trans H; with_reducible exact H2_) | with_reducible exact H | (rw [hyz5]; exact H) | exact H
 have Nyz5 := am hyz5
 clear hyz5
 by_cases c4 : (strOfNums yz2).size + (strOfNums yz5).size ≤ 9223372036854775807
 rotate_left
 ·rw [if_neg c4] at H
  exact absurd H (by simp)
 rw [if_pos c4] at H
 have c4b0 := eq_true c4
 have c4b1 : decide ((strOfNums yz2).size + (strOfNums yz5).size ≤ 9223372036854775807) = true := decide_eq_true c4
 try have c4b2 : (9223372036854775807 < (strOfNums yz2).size + (strOfNums yz5).size) = False := eq_false (Nat.not_lt.2 c4)
 obtain ⟨sx5, hsx5⟩ : ∃ s_ : ByteArray, ((strOfNums yz2) ++ (strOfNums yz5)) = s_ := ⟨_, rfl⟩
 replace H : (some sx5) = some r := by first | (rw [hsx5] at H; exact H) | (simp only [hsx5] at H ⊢; exact H) | exact H
 obtain rfl := Option.some.inj H
 go_enter Try.func40, Try.ntmps40
 try go_wp2
 have n0_ := am (below_drew1 HB.out)
 clear HB; have HB := n0_; clear n0_
 refine start_ (n := 9) (S := fun w' => True) (ds := []) #[false, false, false, false, false, false, false, false, false] (by kernel_rfl) rfl rfl trivial (fun hHeld => ?_); refine with_tabW columbariumlaw08_Text.tab1 columbariumlaw08_Text.bits1 (fun HT_ HW_ => ?_)
 generalize w.drew = w6 at HB hHeld ⊢
 refine pu_ 0 (some 3) HT_ rfl rfl (by kernel_rfl) (fun _ _ _ h => h) (.inl ⟨by rfl, by intro w'; go_simp; with_reducible rfl⟩) (by simp only [Act.put, sa_, s0_, s1_, i64_w, i32_w]; rfl) ?_
 refine join_ (σ := Value × Value) 2 #[true, true, true, true, true, true, true, false, false] (fun s_ => [(4, .int .i64 tz1), (6, s_.1), (7, .string (strOfNums yz2)), (8, s_.2), (9, .string (strOfNums yz5)), (5, .int .u8 ((tz1) % 256))]) (fun s_ w' => (Kd.R (Kd.int .u8) 5 w' w.heap.size (fun k_ => some k_ ≠ (s_.2 : Value).ownBlock) s_.1 yz2) ∧ (Kd.R (Kd.int .u8) 5 w' w.heap.size (fun k_ => some k_ ≠ (s_.1 : Value).ownBlock) s_.2 yz5) ∧ (Below w.heap.size w w')) ?_ ?_
 rotate_left
 ·intro hJ1_3_4_5_6
  refine join_ (σ := Value × Value) 3 #[true, true, true, true, true, true, false, false, false] (fun s_ => [(4, .int .i64 tz1), (6, s_.1), (7, .string (strOfNums yz2)), (8, s_.2), (5, .int .u8 ((tz1) % 256))]) (fun s_ w' => (Kd.R (Kd.int .u8) 5 w' w.heap.size (fun k_ => some k_ ≠ (s_.2 : Value).ownBlock) s_.1 yz2) ∧ (Kd.R (Kd.int .u8) 5 w' w.heap.size (fun k_ => some k_ ≠ (s_.1 : Value).ownBlock) s_.2 yz5) ∧ (Below w.heap.size w w')) ?_ ?_
  rotate_left
  ·intro hJ1_3_4_5
   refine join_ (σ := Value × Value) 3 #[true, true, true, true, false, true, true, false, false] (fun s_ => [(4, .int .i64 tz1), (6, s_.1), (8, s_.2), (9, .string (strOfNums yz5)), (5, .int .u8 ((tz1) % 256))]) (fun s_ w' => (Kd.R (Kd.int .u8) 5 w' w.heap.size (fun k_ => some k_ ≠ (s_.2 : Value).ownBlock) s_.1 yz2) ∧ (Kd.R (Kd.int .u8) 5 w' w.heap.size (fun k_ => some k_ ≠ (s_.1 : Value).ownBlock) s_.2 yz5) ∧ (Below w.heap.size w w')) ?_ ?_
   rotate_left
   ·intro hJ1_3_5_6
    refine join_ (σ := Value) 4 #[true, true, true, true, true, false, false, false, false] (fun s_ => [(4, .int .i64 tz1), (6, s_), (7, .string (strOfNums yz2)), (5, .int .u8 ((tz1) % 256))]) (fun s_ w' => (Kd.R (Kd.int .u8) 5 w' w.heap.size (fun _ => True) s_ yz2) ∧ (Below w.heap.size w w')) ?_ ?_
    rotate_left
    ·intro hJ1_3_4
     refine join_ (σ := Value × Value) 4 #[true, true, true, true, false, true, false, false, false] (fun s_ => [(4, .int .i64 tz1), (6, s_.1), (8, s_.2), (5, .int .u8 ((tz1) % 256))]) (fun s_ w' => (Kd.R (Kd.int .u8) 5 w' w.heap.size (fun k_ => some k_ ≠ (s_.2 : Value).ownBlock) s_.1 yz2) ∧ (Kd.R (Kd.int .u8) 5 w' w.heap.size (fun k_ => some k_ ≠ (s_.1 : Value).ownBlock) s_.2 yz5) ∧ (Below w.heap.size w w')) ?_ ?_
     rotate_left
     ·intro hJ1_3_5
      refine join_ (σ := Value) 4 #[true, true, true, false, false, true, true, false, false] (fun s_ => [(4, .int .i64 tz1), (8, s_), (9, .string (strOfNums yz5)), (5, .int .u8 ((tz1) % 256))]) (fun s_ w' => (Kd.R (Kd.int .u8) 5 w' w.heap.size (fun _ => True) s_ yz5) ∧ (Below w.heap.size w w')) ?_ ?_
      rotate_left
      ·intro hJ1_5_6
       refine join_ (σ := Value) 5 #[true, true, true, true, false, false, false, false, false] (fun s_ => [(4, .int .i64 tz1), (6, s_), (5, .int .u8 ((tz1) % 256))]) (fun s_ w' => (Kd.R (Kd.int .u8) 5 w' w.heap.size (fun _ => True) s_ yz2) ∧ (Below w.heap.size w w')) ?_ ?_
       rotate_left
       ·intro hJ1_3
        refine join_ (σ := Value) 5 #[true, true, true, false, false, true, false, false, false] (fun s_ => [(4, .int .i64 tz1), (8, s_), (5, .int .u8 ((tz1) % 256))]) (fun s_ w' => (Kd.R (Kd.int .u8) 5 w' w.heap.size (fun _ => True) s_ yz5) ∧ (Below w.heap.size w w')) ?_ ?_
        rotate_left
        ·intro hJ1_5
         refine join_ (σ := Value) 6 #[true, false, false, false, false, true, true, false, false] (fun s_ => [(8, s_), (9, .string (strOfNums yz5))]) (fun s_ w' => (Kd.R (Kd.int .u8) 5 w' w.heap.size (fun _ => True) s_ yz5) ∧ (Below w.heap.size w w')) ?_ ?_
         rotate_left
         ·intro hJ5_6
          refine join_ (σ := Unit) 6 #[true, true, true, false, false, false, false, false, false] (fun s_ => [(4, .int .i64 tz1), (5, .int .u8 ((tz1) % 256))]) (fun s_ w' => (Below w.heap.size w w')) ?_ ?_
          rotate_left
          ·intro hJ1
           refine join_ (σ := Value) 7 #[true, false, false, false, false, true, false, false, false] (fun s_ => [(8, s_)]) (fun s_ w' => (Kd.R (Kd.int .u8) 5 w' w.heap.size (fun _ => True) s_ yz5) ∧ (Below w.heap.size w w')) ?_ ?_
           rotate_left
           ·intro hJ5
            refine two_ (i := 1) (j := 5) (Ni := some 4) (Nj := some 8) #[true, true, false, false, false, false, false, false, false] #[true, false, false, false, false, true, false, false, false] rfl rfl rfl rfl (two_of HT_.out (by kernel_rfl)) (by decide) (by decide) (fun K hK => ?_) (fun K hK => ?_)
            ·skip
             refine goes_ Try.func34 (by kernel_rfl) rfl #[.int .i64 a0, .int .i64 5] (by rfl) rfl rfl (by (try simp only [List.map_toArray, List.map_cons, List.map_nil]); first | done | rfl | (simp only [List.length_drop, List.length_take]; rfl)) ?_
             with_reducible refine (columbariumlaw08_pick.calls a0 5 tz1 _ A2.out).mono ?_
             rintro e w' ⟨rfl, ⟨nd, rfl⟩⟩
             refine ⟨_, rfl, ?_⟩
             refine hK.out _ _ trivial (fun hHeld => ?_)
             clear hK K
             refine norm_ (by show Act.put _ (some 4) _ = _; simp only [Act.put, sa_, s0_, s1_, i64_w, i32_w]; rfl) ?_
             refine pu_ 2 (some 5) HT_ rfl rfl (by kernel_rfl) (fun _ _ _ h => h) (.inl ⟨by rfl, by intro w'; go_simp; with_reducible rfl⟩) (by simp only [Act.put, sa_, s0_, s1_, i64_w, i32_w]; rfl) ?_
             exact norm_ (by simp only [putAll, Act.put, sa_, s0_, s1_] <;> rfl) (hJ1 () _ (pb HB))
            skip
            refine Kd.R_make_step (Kd.int .u8) _ 5 (by rfl) (N := 8) rfl 57 _ _ rfl 23 rfl rfl Try.underlying57 (.int .u8 0) 1 info5 rfl (by decide) (by omega) 0 (ok := fun _ => True) (okp := fun _ => True) rfl (fun _ hk => hk) trivial (by omega) (by omega) (Below.refl _ _) (Nat.le_refl _) ?_
            intro vz6 w7 ho8 hb hg_ hnew_
            clear hg_ hnew_
            (first | rw [← Nyz5.out] at ho8 | (simp only [Int.reduceToNat] at ho8; rw [← Nyz5.out] at ho8))
            have n0_ := am (Kd.R_lower ho8 (below_size (pb HB)))
            have n1_ := am (below_step (pb HB) hb)
            clear HB; have HOz7 := n0_; have HB := n1_; clear n0_ n1_; clear hb ho8
            refine hK.out _ _ trivial (fun hHeld => ?_)
            clear hK K
            refine norm_ (by show Act.put _ (some 8) _ = _; simp only [Act.put, sa_, s0_, s1_, i64_w, i32_w]; rfl) ?_
            exact norm_ (by simp only [putAll, Act.put, sa_, s0_, s1_] <;> rfl) (hJ5 (vz6) _ ⟨(pr HOz7), (pb HB)⟩)
           ·skip
            rintro vz6 w9 ⟨h0_, h1_⟩
            have n0_ : Aside0 (Kd.R (Kd.int .u8) 5 w9 w.heap.size (fun _ => True) vz6 yz5) := ⟨h0_⟩
            have n1_ : Aside0 (Below w.heap.size w w9) := ⟨h1_⟩
            clear HB h0_ h1_; have HOz7 := n0_; have HB := n1_; clear n0_ n1_
            have hHeld := trivial
            refine norm_ (by simp only [putAll, Act.put, List.setIfInBounds_toArray, List.set_cons_zero, List.set_cons_succ]; rfl) ?_
            refine two_ (i := 1) (j := 6) (Ni := some 4) (Nj := some 9) #[true, true, false, false, false, true, false, false, false] #[true, false, false, false, false, true, true, false, false] rfl rfl rfl rfl (two_of HT_.out (by kernel_rfl)) (by decide) (by decide) (fun K hK => ?_) (fun K hK => ?_)
            rotate_left
            ·skip
             have hcv10 := own_string (P := Try.prog) Try.underlying57 Try.underlying5 Try.underlying9 (Kd.own_of_R HOz7.out)
             refine value_ (w1 := ?_) (v := ?_) (by rfl) rfl ?_ ?_
             rotate_left 2
             ·go_simp
              constructor
              rotate_left
              ·rfl
              rfl
             clear hcv10
             refine hK.out _ _ trivial (fun hHeld => ?_)
             clear hK K
             refine norm_ (by show Act.put _ (some 9) _ = _; simp only [Act.put, sa_, s0_, s1_, i64_w, i32_w]; rfl) ?_
             exact norm_ (by simp only [putAll, Act.put, sa_, s0_, s1_] <;> rfl) (hJ5_6 (vz6) _ ⟨(pr HOz7), (pb HB)⟩)
            skip
            refine goes_ Try.func34 (by kernel_rfl) rfl #[.int .i64 a0, .int .i64 5] (by rfl) rfl rfl (by (try simp only [List.map_toArray, List.map_cons, List.map_nil]); first | done | rfl | (simp only [List.length_drop, List.length_take]; rfl)) ?_
            with_reducible refine (columbariumlaw08_pick.calls a0 5 tz1 _ A2.out).mono ?_
            rintro e w' ⟨rfl, ⟨nd, rfl⟩⟩
            refine ⟨_, rfl, ?_⟩
            refine hK.out _ _ trivial (fun hHeld => ?_)
            clear hK K
            refine norm_ (by show Act.put _ (some 4) _ = _; simp only [Act.put, sa_, s0_, s1_, i64_w, i32_w]; rfl) ?_
            refine pu_ 2 (some 5) HT_ rfl rfl (by kernel_rfl) (fun _ _ _ h => h) (.inl ⟨by rfl, by intro w'; go_simp; with_reducible rfl⟩) (by simp only [Act.put, sa_, s0_, s1_, i64_w, i32_w]; rfl) ?_
            exact norm_ (by simp only [putAll, Act.put, sa_, s0_, s1_] <;> rfl) (hJ1_5 (vz6) _ ⟨(pr HOz7), (pb HB)⟩)
          ·skip
           rintro _ w7 h0_
           have n0_ : Aside0 (Below w.heap.size w w7) := ⟨h0_⟩
           clear HB h0_; have HB := n0_; clear n0_
           have hHeld := trivial
           refine norm_ (by simp only [putAll, Act.put, List.setIfInBounds_toArray, List.set_cons_zero, List.set_cons_succ]; rfl) ?_
           refine two_ (i := 3) (j := 5) (Ni := some 6) (Nj := some 8) #[true, true, true, true, false, false, false, false, false] #[true, true, true, false, false, true, false, false, false] rfl rfl rfl rfl (two_of HT_.out (by kernel_rfl)) (by decide) (by decide) (fun K hK => ?_) (fun K hK => ?_)
           rotate_left
           ·skip
            refine Kd.R_make_step (Kd.int .u8) _ 5 (by rfl) (N := 8) rfl 57 _ _ rfl 23 rfl rfl Try.underlying57 (.int .u8 0) 1 info5 rfl (by decide) (by omega) 0 (ok := fun _ => True) (okp := fun _ => True) rfl (fun _ hk => hk) trivial (by omega) (by omega) (Below.refl _ _) (Nat.le_refl _) ?_
            intro vz6 w8 ho9 hb hg_ hnew_
            clear hg_ hnew_
            (first | rw [← Nyz5.out] at ho9 | (simp only [Int.reduceToNat] at ho9; rw [← Nyz5.out] at ho9))
            have n0_ := am (Kd.R_lower ho9 (below_size (pb HB)))
            have n1_ := am (below_step (pb HB) hb)
            clear HB; have HOz7 := n0_; have HB := n1_; clear n0_ n1_; clear hb ho9
            refine hK.out _ _ trivial (fun hHeld => ?_)
            clear hK K
            refine norm_ (by show Act.put _ (some 8) _ = _; simp only [Act.put, sa_, s0_, s1_, i64_w, i32_w]; rfl) ?_
            exact norm_ (by simp only [putAll, Act.put, sa_, s0_, s1_] <;> rfl) (hJ1_5 (vz6) _ ⟨(pr HOz7), (pb HB)⟩)
           skip
           refine Kd.R_lit_step (Kd.int .u8) _ 5 ?hg (N := 6) ?hd (xs := ([(tz1) % 256] : List Int)) (inner := [.int .u8 ((tz1) % 256)]) (ok := fun _ => True) (okp := fun _ => True) ?hr ?hp (fun _ hk => hk) trivial (Below.refl _ _) (Nat.le_refl _) (by simp) ?_; (case hd => rfl); (case hg => rfl); (case hr => first | (go_simp; done) | (go_simp; rfl)); (case hp => exact (Reps.one (show Kd.M (Kd.int .u8) _ _ _ ((tz1) % 256) [.int .u8 ((tz1) % 256)] from rfl) (Reps.none _ _)))
           intro vz3 w8 ho9 hb hg_ hnew_
           clear hg_ hnew_
           (first | rw [← Nyz2.out] at ho9 | (simp only [Int.reduceToNat] at ho9; rw [← Nyz2.out] at ho9))
           have n0_ := am (Kd.R_lower ho9 (below_size (pb HB)))
           have n1_ := am (below_step (pb HB) hb)
           clear HB; have HOz4 := n0_; have HB := n1_; clear n0_ n1_; clear hb ho9
           refine hK.out _ _ trivial (fun hHeld => ?_)
           clear hK K
           refine norm_ (by show Act.put _ (some 6) _ = _; simp only [Act.put, sa_, s0_, s1_, i64_w, i32_w]; rfl) ?_
           exact norm_ (by simp only [putAll, Act.put, sa_, s0_, s1_] <;> rfl) (hJ1_3 (vz3) _ ⟨(pr HOz4), (pb HB)⟩)
         ·skip
          rintro vz6 w10 ⟨h0_, h1_⟩
          have n0_ : Aside0 (Kd.R (Kd.int .u8) 5 w10 w.heap.size (fun _ => True) vz6 yz5) := ⟨h0_⟩
          have n1_ : Aside0 (Below w.heap.size w w10) := ⟨h1_⟩
          clear HB h0_ h1_; have HOz7 := n0_; have HB := n1_; clear n0_ n1_
          have hHeld := trivial
          refine norm_ (by simp only [putAll, Act.put, List.setIfInBounds_toArray, List.set_cons_zero, List.set_cons_succ]; rfl) ?_
          refine on_ 1 (some 4) HT_ rfl rfl (by kernel_rfl) (by decide) (fun K hK => ?_)
          refine goes_ Try.func34 (by kernel_rfl) rfl #[.int .i64 a0, .int .i64 5] (by rfl) rfl rfl (by (try simp only [List.map_toArray, List.map_cons, List.map_nil]); first | done | rfl | (simp only [List.length_drop, List.length_take]; rfl)) ?_
          with_reducible refine (columbariumlaw08_pick.calls a0 5 tz1 _ A2.out).mono ?_
          rintro e w' ⟨rfl, ⟨nd, rfl⟩⟩
          refine ⟨_, rfl, ?_⟩
          refine hK.out _ _ trivial (fun hHeld => ?_)
          clear hK K
          refine norm_ (by show Act.put _ (some 4) _ = _; simp only [Act.put, sa_, s0_, s1_, i64_w, i32_w]; rfl) ?_
          refine pu_ 2 (some 5) HT_ rfl rfl (by kernel_rfl) (fun _ _ _ h => h) (.inl ⟨by rfl, by intro w'; go_simp; with_reducible rfl⟩) (by simp only [Act.put, sa_, s0_, s1_, i64_w, i32_w]; rfl) ?_
          exact norm_ (by simp only [putAll, Act.put, sa_, s0_, s1_] <;> rfl) (hJ1_5_6 (vz6) _ ⟨(pr HOz7), (pb HB)⟩)
        ·skip
         rintro vz6 w9 ⟨h0_, h1_⟩
         have n0_ : Aside0 (Kd.R (Kd.int .u8) 5 w9 w.heap.size (fun _ => True) vz6 yz5) := ⟨h0_⟩
         have n1_ : Aside0 (Below w.heap.size w w9) := ⟨h1_⟩
         clear HB h0_ h1_; have HOz7 := n0_; have HB := n1_; clear n0_ n1_
         have hHeld := trivial
         refine norm_ (by simp only [putAll, Act.put, List.setIfInBounds_toArray, List.set_cons_zero, List.set_cons_succ]; rfl) ?_
         refine two_ (i := 3) (j := 6) (Ni := some 6) (Nj := some 9) #[true, true, true, true, false, true, false, false, false] #[true, true, true, false, false, true, true, false, false] rfl rfl rfl rfl (two_of HT_.out (by kernel_rfl)) (by decide) (by decide) (fun K hK => ?_) (fun K hK => ?_)
         rotate_left
         ·skip
          have hcv10 := own_string (P := Try.prog) Try.underlying57 Try.underlying5 Try.underlying9 (Kd.own_of_R HOz7.out)
          refine value_ (w1 := ?_) (v := ?_) (by rfl) rfl ?_ ?_
          rotate_left 2
          ·go_simp
           constructor
           rotate_left
           ·rfl
           rfl
          clear hcv10
          refine hK.out _ _ trivial (fun hHeld => ?_)
          clear hK K
          refine norm_ (by show Act.put _ (some 9) _ = _; simp only [Act.put, sa_, s0_, s1_, i64_w, i32_w]; rfl) ?_
          exact norm_ (by simp only [putAll, Act.put, sa_, s0_, s1_] <;> rfl) (hJ1_5_6 (vz6) _ ⟨(pr HOz7), (pb HB)⟩)
         skip
         refine Kd.R_lit_step (Kd.int .u8) _ 5 ?hg (N := 6) ?hd (xs := ([(tz1) % 256] : List Int)) (inner := [.int .u8 ((tz1) % 256)]) (ok := fun _ => True) (okp := fun _ => True) ?hr ?hp (fun _ hk => hk) trivial (Below.refl _ _) (Nat.le_refl _) (by simp) ?_; (case hd => rfl); (case hg => rfl); (case hr => first | (go_simp; done) | (go_simp; rfl)); (case hp => exact (Reps.one (show Kd.M (Kd.int .u8) _ _ _ ((tz1) % 256) [.int .u8 ((tz1) % 256)] from rfl) (Reps.none _ _)))
         intro vz3 w10 ho11 hb hg_ hnew_
         clear hg_ hnew_
         (first | rw [← Nyz2.out] at ho11 | (simp only [Int.reduceToNat] at ho11; rw [← Nyz2.out] at ho11))
         have n0_ := am (Kd.R_elder' (pr HOz7) (Kd.R_base ho11) hb)
         have n1_ := am (Kd.R_lower (Kd.R_new' ho11 (Kd.R_lt (pr HOz7))) (below_size (pb HB)))
         have n2_ := am (below_step (pb HB) hb)
         clear HOz7 HB; have HOz7 := n0_; have HOz4 := n1_; have HB := n2_; clear n0_ n1_ n2_; clear hb ho11
         refine hK.out _ _ trivial (fun hHeld => ?_)
         clear hK K
         refine norm_ (by show Act.put _ (some 6) _ = _; simp only [Act.put, sa_, s0_, s1_, i64_w, i32_w]; rfl) ?_
         exact norm_ (by simp only [putAll, Act.put, sa_, s0_, s1_] <;> rfl) (hJ1_3_5 (vz3, vz6) _ ⟨(pm HOz4 (fun _ hk => hk.2)), (pm HOz7 (fun _ hk => hk.2)), (pb HB)⟩)
       ·skip
        rintro vz3 w9 ⟨h0_, h1_⟩
        have n0_ : Aside0 (Kd.R (Kd.int .u8) 5 w9 w.heap.size (fun _ => True) vz3 yz2) := ⟨h0_⟩
        have n1_ : Aside0 (Below w.heap.size w w9) := ⟨h1_⟩
        clear HB h0_ h1_; have HOz4 := n0_; have HB := n1_; clear n0_ n1_
        have hHeld := trivial
        refine norm_ (by simp only [putAll, Act.put, List.setIfInBounds_toArray, List.set_cons_zero, List.set_cons_succ]; rfl) ?_
        refine two_ (i := 4) (j := 5) (Ni := some 7) (Nj := some 8) #[true, true, true, true, true, false, false, false, false] #[true, true, true, true, false, true, false, false, false] rfl rfl rfl rfl (two_of HT_.out (by kernel_rfl)) (by decide) (by decide) (fun K hK => ?_) (fun K hK => ?_)
        ·skip
         have hcv10 := own_string (P := Try.prog) Try.underlying57 Try.underlying5 Try.underlying9 (Kd.own_of_R HOz4.out)
         refine value_ (w1 := ?_) (v := ?_) (by rfl) rfl ?_ ?_
         rotate_left 2
         ·go_simp
          constructor
          rotate_left
          ·rfl
          rfl
         clear hcv10
         refine hK.out _ _ trivial (fun hHeld => ?_)
         clear hK K
         refine norm_ (by show Act.put _ (some 7) _ = _; simp only [Act.put, sa_, s0_, s1_, i64_w, i32_w]; rfl) ?_
         exact norm_ (by simp only [putAll, Act.put, sa_, s0_, s1_] <;> rfl) (hJ1_3_4 (vz3) _ ⟨(pr HOz4), (pb HB)⟩)
        skip
        refine Kd.R_make_step (Kd.int .u8) _ 5 (by rfl) (N := 8) rfl 57 _ _ rfl 23 rfl rfl Try.underlying57 (.int .u8 0) 1 info5 rfl (by decide) (by omega) 0 (ok := fun _ => True) (okp := fun _ => True) rfl (fun _ hk => hk) trivial (by omega) (by omega) (Below.refl _ _) (Nat.le_refl _) ?_
        intro vz6 w10 ho11 hb hg_ hnew_
        clear hg_ hnew_
        (first | rw [← Nyz5.out] at ho11 | (simp only [Int.reduceToNat] at ho11; rw [← Nyz5.out] at ho11))
        have n0_ := am (Kd.R_elder' (pr HOz4) (Kd.R_base ho11) hb)
        have n1_ := am (Kd.R_lower (Kd.R_new' ho11 (Kd.R_lt (pr HOz4))) (below_size (pb HB)))
        have n2_ := am (below_step (pb HB) hb)
        clear HOz4 HB; have HOz4 := n0_; have HOz7 := n1_; have HB := n2_; clear n0_ n1_ n2_; clear hb ho11
        refine hK.out _ _ trivial (fun hHeld => ?_)
        clear hK K
        refine norm_ (by show Act.put _ (some 8) _ = _; simp only [Act.put, sa_, s0_, s1_, i64_w, i32_w]; rfl) ?_
        exact norm_ (by simp only [putAll, Act.put, sa_, s0_, s1_] <;> rfl) (hJ1_3_5 (vz3, vz6) _ ⟨(pm HOz4 (fun _ hk => hk.2)), (pm HOz7 (fun _ hk => hk.2)), (pb HB)⟩)
      ·skip
       rintro vz6 w10 ⟨h0_, h1_⟩
       have n0_ : Aside0 (Kd.R (Kd.int .u8) 5 w10 w.heap.size (fun _ => True) vz6 yz5) := ⟨h0_⟩
       have n1_ : Aside0 (Below w.heap.size w w10) := ⟨h1_⟩
       clear HB h0_ h1_; have HOz7 := n0_; have HB := n1_; clear n0_ n1_
       have hHeld := trivial
       refine norm_ (by simp only [putAll, Act.put, List.setIfInBounds_toArray, List.set_cons_zero, List.set_cons_succ]; rfl) ?_
       refine on_ 3 (some 6) HT_ rfl rfl (by kernel_rfl) (by decide) (fun K hK => ?_)
       refine Kd.R_lit_step (Kd.int .u8) _ 5 ?hg (N := 6) ?hd (xs := ([(tz1) % 256] : List Int)) (inner := [.int .u8 ((tz1) % 256)]) (ok := fun _ => True) (okp := fun _ => True) ?hr ?hp (fun _ hk => hk) trivial (Below.refl _ _) (Nat.le_refl _) (by simp) ?_; (case hd => rfl); (case hg => rfl); (case hr => first | (go_simp; done) | (go_simp; rfl)); (case hp => exact (Reps.one (show Kd.M (Kd.int .u8) _ _ _ ((tz1) % 256) [.int .u8 ((tz1) % 256)] from rfl) (Reps.none _ _)))
       intro vz3 w11 ho12 hb hg_ hnew_
       clear hg_ hnew_
       (first | rw [← Nyz2.out] at ho12 | (simp only [Int.reduceToNat] at ho12; rw [← Nyz2.out] at ho12))
       have n0_ := am (Kd.R_elder' (pr HOz7) (Kd.R_base ho12) hb)
       have n1_ := am (Kd.R_lower (Kd.R_new' ho12 (Kd.R_lt (pr HOz7))) (below_size (pb HB)))
       have n2_ := am (below_step (pb HB) hb)
       clear HOz7 HB; have HOz7 := n0_; have HOz4 := n1_; have HB := n2_; clear n0_ n1_ n2_; clear hb ho12
       refine hK.out _ _ trivial (fun hHeld => ?_)
       clear hK K
       refine norm_ (by show Act.put _ (some 6) _ = _; simp only [Act.put, sa_, s0_, s1_, i64_w, i32_w]; rfl) ?_
       exact norm_ (by simp only [putAll, Act.put, sa_, s0_, s1_] <;> rfl) (hJ1_3_5_6 (vz3, vz6) _ ⟨(pm HOz4 (fun _ hk => hk.2)), (pm HOz7 (fun _ hk => hk.2)), (pb HB)⟩)
     ·skip
      rintro ⟨vz3, vz6⟩ w11 ⟨h0_, h1_, h2_⟩
      have n0_ : Aside0 (Kd.R (Kd.int .u8) 5 w11 w.heap.size (fun k_ => some k_ ≠ (vz6 : Value).ownBlock) vz3 yz2) := ⟨h0_⟩
      have n1_ : Aside0 (Kd.R (Kd.int .u8) 5 w11 w.heap.size (fun k_ => some k_ ≠ (vz3 : Value).ownBlock) vz6 yz5) := ⟨h1_⟩
      have n2_ : Aside0 (Below w.heap.size w w11) := ⟨h2_⟩
      clear HB h0_ h1_ h2_; have HOz4 := n0_; have HOz7 := n1_; have HB := n2_; clear n0_ n1_ n2_
      have hHeld := trivial
      refine norm_ (by simp only [putAll, Act.put, List.setIfInBounds_toArray, List.set_cons_zero, List.set_cons_succ]; rfl) ?_
      refine two_ (i := 4) (j := 6) (Ni := some 7) (Nj := some 9) #[true, true, true, true, true, true, false, false, false] #[true, true, true, true, false, true, true, false, false] rfl rfl rfl rfl (two_of HT_.out (by kernel_rfl)) (by decide) (by decide) (fun K hK => ?_) (fun K hK => ?_)
      rotate_left
      ·skip
       have hcv12 := own_string (P := Try.prog) Try.underlying57 Try.underlying5 Try.underlying9 (Kd.own_of_R HOz7.out)
       refine value_ (w1 := ?_) (v := ?_) (by rfl) rfl ?_ ?_
       rotate_left 2
       ·go_simp
        constructor
        rotate_left
        ·rfl
        rfl
       clear hcv12
       refine hK.out _ _ trivial (fun hHeld => ?_)
       clear hK K
       refine norm_ (by show Act.put _ (some 9) _ = _; simp only [Act.put, sa_, s0_, s1_, i64_w, i32_w]; rfl) ?_
       exact norm_ (by simp only [putAll, Act.put, sa_, s0_, s1_] <;> rfl) (hJ1_3_5_6 (vz3, vz6) _ ⟨(pr HOz4), (pr HOz7), (pb HB)⟩)
      skip
      have hcv12 := own_string (P := Try.prog) Try.underlying57 Try.underlying5 Try.underlying9 (Kd.own_of_R HOz4.out)
      refine value_ (w1 := ?_) (v := ?_) (by rfl) rfl ?_ ?_
      rotate_left 2
      ·go_simp
       constructor
       rotate_left
       ·rfl
       rfl
      clear hcv12
      refine hK.out _ _ trivial (fun hHeld => ?_)
      clear hK K
      refine norm_ (by show Act.put _ (some 7) _ = _; simp only [Act.put, sa_, s0_, s1_, i64_w, i32_w]; rfl) ?_
      exact norm_ (by simp only [putAll, Act.put, sa_, s0_, s1_] <;> rfl) (hJ1_3_4_5 (vz3, vz6) _ ⟨(pr HOz4), (pr HOz7), (pb HB)⟩)
    ·skip
     rintro vz3 w10 ⟨h0_, h1_⟩
     have n0_ : Aside0 (Kd.R (Kd.int .u8) 5 w10 w.heap.size (fun _ => True) vz3 yz2) := ⟨h0_⟩
     have n1_ : Aside0 (Below w.heap.size w w10) := ⟨h1_⟩
     clear HB h0_ h1_; have HOz4 := n0_; have HB := n1_; clear n0_ n1_
     have hHeld := trivial
     refine norm_ (by simp only [putAll, Act.put, List.setIfInBounds_toArray, List.set_cons_zero, List.set_cons_succ]; rfl) ?_
     refine on_ 5 (some 8) HT_ rfl rfl (by kernel_rfl) (by decide) (fun K hK => ?_)
     refine Kd.R_make_step (Kd.int .u8) _ 5 (by rfl) (N := 8) rfl 57 _ _ rfl 23 rfl rfl Try.underlying57 (.int .u8 0) 1 info5 rfl (by decide) (by omega) 0 (ok := fun _ => True) (okp := fun _ => True) rfl (fun _ hk => hk) trivial (by omega) (by omega) (Below.refl _ _) (Nat.le_refl _) ?_
     intro vz6 w11 ho12 hb hg_ hnew_
     clear hg_ hnew_
     (first | rw [← Nyz5.out] at ho12 | (simp only [Int.reduceToNat] at ho12; rw [← Nyz5.out] at ho12))
     have n0_ := am (Kd.R_elder' (pr HOz4) (Kd.R_base ho12) hb)
     have n1_ := am (Kd.R_lower (Kd.R_new' ho12 (Kd.R_lt (pr HOz4))) (below_size (pb HB)))
     have n2_ := am (below_step (pb HB) hb)
     clear HOz4 HB; have HOz4 := n0_; have HOz7 := n1_; have HB := n2_; clear n0_ n1_ n2_; clear hb ho12
     refine hK.out _ _ trivial (fun hHeld => ?_)
     clear hK K
     refine norm_ (by show Act.put _ (some 8) _ = _; simp only [Act.put, sa_, s0_, s1_, i64_w, i32_w]; rfl) ?_
     exact norm_ (by simp only [putAll, Act.put, sa_, s0_, s1_] <;> rfl) (hJ1_3_4_5 (vz3, vz6) _ ⟨(pm HOz4 (fun _ hk => hk.2)), (pm HOz7 (fun _ hk => hk.2)), (pb HB)⟩)
   ·skip
    rintro ⟨vz3, vz6⟩ w12 ⟨h0_, h1_, h2_⟩
    have n0_ : Aside0 (Kd.R (Kd.int .u8) 5 w12 w.heap.size (fun k_ => some k_ ≠ (vz6 : Value).ownBlock) vz3 yz2) := ⟨h0_⟩
    have n1_ : Aside0 (Kd.R (Kd.int .u8) 5 w12 w.heap.size (fun k_ => some k_ ≠ (vz3 : Value).ownBlock) vz6 yz5) := ⟨h1_⟩
    have n2_ : Aside0 (Below w.heap.size w w12) := ⟨h2_⟩
    clear HB h0_ h1_ h2_; have HOz4 := n0_; have HOz7 := n1_; have HB := n2_; clear n0_ n1_ n2_
    have hHeld := trivial
    refine norm_ (by simp only [putAll, Act.put, List.setIfInBounds_toArray, List.set_cons_zero, List.set_cons_succ]; rfl) ?_
    refine on_ 4 (some 7) HT_ rfl rfl (by kernel_rfl) (by decide) (fun K hK => ?_)
    have hcv13 := own_string (P := Try.prog) Try.underlying57 Try.underlying5 Try.underlying9 (Kd.own_of_R HOz4.out)
    refine value_ (w1 := ?_) (v := ?_) (by rfl) rfl ?_ ?_
    rotate_left 2
    ·go_simp
     constructor
     rotate_left
     ·rfl
     rfl
    clear hcv13
    refine hK.out _ _ trivial (fun hHeld => ?_)
    clear hK K
    refine norm_ (by show Act.put _ (some 7) _ = _; simp only [Act.put, sa_, s0_, s1_, i64_w, i32_w]; rfl) ?_
    exact norm_ (by simp only [putAll, Act.put, sa_, s0_, s1_] <;> rfl) (hJ1_3_4_5_6 (vz3, vz6) _ ⟨(pr HOz4), (pr HOz7), (pb HB)⟩)
  ·skip
   rintro ⟨vz3, vz6⟩ w12 ⟨h0_, h1_, h2_⟩
   have n0_ : Aside0 (Kd.R (Kd.int .u8) 5 w12 w.heap.size (fun k_ => some k_ ≠ (vz6 : Value).ownBlock) vz3 yz2) := ⟨h0_⟩
   have n1_ : Aside0 (Kd.R (Kd.int .u8) 5 w12 w.heap.size (fun k_ => some k_ ≠ (vz3 : Value).ownBlock) vz6 yz5) := ⟨h1_⟩
   have n2_ : Aside0 (Below w.heap.size w w12) := ⟨h2_⟩
   clear HB h0_ h1_ h2_; have HOz4 := n0_; have HOz7 := n1_; have HB := n2_; clear n0_ n1_ n2_
   have hHeld := trivial
   refine norm_ (by simp only [putAll, Act.put, List.setIfInBounds_toArray, List.set_cons_zero, List.set_cons_succ]; rfl) ?_
   refine on_ 6 (some 9) HT_ rfl rfl (by kernel_rfl) (by decide) (fun K hK => ?_)
   have hcv13 := own_string (P := Try.prog) Try.underlying57 Try.underlying5 Try.underlying9 (Kd.own_of_R HOz7.out)
   refine value_ (w1 := ?_) (v := ?_) (by rfl) rfl ?_ ?_
   rotate_left 2
   ·go_simp
    constructor
    rotate_left
    ·rfl
    rfl
   clear hcv13
   refine hK.out _ _ trivial (fun hHeld => ?_)
   clear hK K
   refine norm_ (by show Act.put _ (some 9) _ = _; simp only [Act.put, sa_, s0_, s1_, i64_w, i32_w]; rfl) ?_
   exact norm_ (by simp only [putAll, Act.put, sa_, s0_, s1_] <;> rfl) (hJ1_3_4_5_6 (vz3, vz6) _ ⟨(pr HOz4), (pr HOz7), (pb HB)⟩)
 rintro ⟨vz3, vz6⟩ w13 ⟨h0_, h1_, h2_⟩
 have n0_ : Aside0 (Kd.R (Kd.int .u8) 5 w13 w.heap.size (fun k_ => some k_ ≠ (vz6 : Value).ownBlock) vz3 yz2) := ⟨h0_⟩
 have n1_ : Aside0 (Kd.R (Kd.int .u8) 5 w13 w.heap.size (fun k_ => some k_ ≠ (vz3 : Value).ownBlock) vz6 yz5) := ⟨h1_⟩
 have n2_ : Aside0 (Below w.heap.size w w13) := ⟨h2_⟩
 clear HB h0_ h1_ h2_; have HOz4 := n0_; have HOz7 := n1_; have HB := n2_; clear n0_ n1_ n2_
 have hHeld := trivial
 refine norm_ (by simp only [putAll, Act.put, List.setIfInBounds_toArray, List.set_cons_zero, List.set_cons_succ]; rfl) ?_
 refine pu_ 7 (some 10) HT_ rfl rfl (by kernel_rfl) (fun _ _ _ h => h) (.inl ⟨by rfl, by intro w'; go_simp; with_reducible rfl⟩) (by simp only [Act.put, sa_, s0_, s1_, i64_w, i32_w]; rfl) ?_
 refine pu_ 8 (some 2) HT_ rfl rfl (by kernel_rfl) (fun _ _ _ h => h) (.inl ⟨by rfl, by intro w'; go_simp; with_reducible rfl⟩) (by simp only [Act.put, sa_, s0_, s1_, i64_w, i32_w]; rfl) ?_
 refine done_ (done_of HT_.out (by kernel_rfl)) ?_
 try go_wp2
 go_ret
 exact ⟨by first | rfl | (simp [errW_none, errW_some] <;> rfl) | (simp only [← hsx5]; first | rfl | (simp [errW_none, errW_some] <;> rfl)) | (simp [*, errW_none, errW_some] <;> rfl), by repeat (first | (with_reducible first | exact HB.out | apply below_alloc | apply pw_below_drewN | apply below_drew1) | exact HB.out)⟩
end Go.Proofs.Ytmkncddbecmlpaa.Pr
end
section
namespace Go.Proofs.Ytmkncddbecmlpaa.Pr
open Go.RowKit Go.Proofs.YtmkncddbecmlpaaW.PrintWords Go.Proofs.YtmkncddbecmlpaaW.PrintLast Go.Proofs.YtmkncddbecmlpaaW.PrintMore
attribute [local go_sem] max2_int min2_int max_two min_two max_three min_three max_four min_four
set_option linter.unusedVariables false
set_option linter.unusedSimpArgs false
theorem eqA23 (d : Nat) (w : World) (x0 y0 : ByteArray) (x1 y1 : Int) :
  (Op.equalIn (d + 2) 23 (.agg #[.string x0, .int .i64 x1]) (.agg #[.string y0, .int .i64 y1])).run Try.prog w = .ok (x0.toList == y0.toList && (x1 == y1)) w := by
 refine eqA_of Try.underlying23 (by kernel_rfl) ?_
 refine eqf_cons (by rfl) (by go_simp; rfl) (by go_simp; rfl) (by go_simp) ?_
 exact eqf_last (by rfl) (by go_simp; rfl) (by go_simp; rfl) (by go_simp)
end Go.Proofs.Ytmkncddbecmlpaa.Pr
end
section
namespace Go.Proofs.Ytmkncddbecmlpaa.Pr
open Go.RowKit Go.Proofs.YtmkncddbecmlpaaW.PrintWords Go.Proofs.YtmkncddbecmlpaaW.PrintLast Go.Proofs.YtmkncddbecmlpaaW.PrintMore
attribute [local go_sem] max2_int min2_int max_two min_two max_three min_three max_four min_four
set_option linter.unusedVariables false
set_option linter.unusedSimpArgs false
theorem eqA72 (d : Nat) (w : World) (x0 y0 : ByteArray) (x1 y1 : ByteArray) :
  (Op.equalIn (d + 2) 72 (.agg #[.string x0, .string x1]) (.agg #[.string y0, .string y1])).run Try.prog w = .ok (x0.toList == y0.toList && (x1.toList == y1.toList)) w := by
 refine eqA_of Try.underlying72 (by kernel_rfl) ?_
 refine eqf_cons (by rfl) (by go_simp; rfl) (by go_simp; rfl) (by go_simp) ?_
 exact eqf_last (by rfl) (by go_simp; rfl) (by go_simp; rfl) (by go_simp)
end Go.Proofs.Ytmkncddbecmlpaa.Pr
end
section
namespace Go.Proofs.Ytmkncddbecmlpaa.Pr
open Go.RowKit Go.Proofs.YtmkncddbecmlpaaW.PrintWords Go.Proofs.YtmkncddbecmlpaaW.PrintLast Go.Proofs.YtmkncddbecmlpaaW.PrintMore
attribute [local go_sem] max2_int min2_int max_two min_two max_three min_three max_four min_four
set_option linter.unusedVariables false
set_option linter.unusedSimpArgs false
theorem eqA74 (d : Nat) (w : World) (x0 y0 : ByteArray) (x1 y1 : ByteArray) (x2 y2 : ByteArray) :
  (Op.equalIn (d + 2) 74 (.agg #[.string x0, .string x1, .string x2]) (.agg #[.string y0, .string y1, .string y2])).run Try.prog w = .ok (x0.toList == y0.toList && (x1.toList == y1.toList && (x2.toList == y2.toList))) w := by
 refine eqA_of Try.underlying74 (by kernel_rfl) ?_
 refine eqf_cons (by rfl) (by go_simp; rfl) (by go_simp; rfl) (by go_simp) ?_
 refine eqf_cons (by rfl) (by go_simp; rfl) (by go_simp; rfl) (by go_simp) ?_
 exact eqf_last (by rfl) (by go_simp; rfl) (by go_simp; rfl) (by go_simp)
end Go.Proofs.Ytmkncddbecmlpaa.Pr
end
section
namespace Go.Proofs.Ytmkncddbecmlpaa.Pr
open Go.Proofs.Ytmkncddbecmlpaa.Sq Go.RowKit Go.Proofs.YtmkncddbecmlpaaW.PrintWords Go.Proofs.YtmkncddbecmlpaaW.PrintLast Go.Proofs.YtmkncddbecmlpaaW.PrintMore
attribute [local go_sem] max2_int min2_int max_two min_two max_three min_three max_four min_four
set_option linter.unusedVariables false
set_option linter.unusedSimpArgs false
attribute [local go_sem high] eqA23 eqA72 eqA74
mutual
def columbariumref08_Same.j0 : Nat → Bool → ByteArray → Int → List (S72) → List (S74) → Bool → ByteArray → Int → List (S72) → List (S74) → Bool → Option (Bool)
 | 0, _, _, _, _, _, _, _, _, _, _, _ => none
 | k + 1, x36, xz2000, xz2001, xz2002, xz2003, xz2004, xz3000, xz3001, xz3002, xz3003, xz3004 => if x36 = true then (some false) else (columbariumref08_Same.l0 k 0 xz2000 xz2001 xz2002 xz2003 xz2004 xz3000 xz3001 xz3002 xz3003 xz3004)
def columbariumref08_Same.l0 : Nat → Int → ByteArray → Int → List (S72) → List (S74) → Bool → ByteArray → Int → List (S72) → List (S74) → Bool → Option (Bool)
 | 0, _, _, _, _, _, _, _, _, _, _, _ => none
 | k + 1, x5, xz2000, xz2001, xz2002, xz2003, xz2004, xz3000, xz3001, xz3002, xz3003, xz3004 => if x5 < (xz2002.length : Int) then (if 0 ≤ x5 then (if x5 < (xz3002.length : Int) then (if (!((((rd_T72 xz2002 x5).f0).toList) == (((rd_T72 xz3002 x5).f0).toList)) || (!((((rd_T72 xz2002 x5).f1).toList) == (((rd_T72 xz3002 x5).f1).toList)))) = true then (some false) else (columbariumref08_Same.l0 k (wrap64 (x5 + 1)) xz2000 xz2001 xz2002 xz2003 xz2004 xz3000 xz3001 xz3002 xz3003 xz3004)) else (none)) else (none)) else (columbariumref08_Same.l1 k 0 xz2000 xz2001 xz2002 xz2003 xz2004 xz3000 xz3001 xz3002 xz3003 xz3004)
def columbariumref08_Same.l1 : Nat → Int → ByteArray → Int → List (S72) → List (S74) → Bool → ByteArray → Int → List (S72) → List (S74) → Bool → Option (Bool)
 | 0, _, _, _, _, _, _, _, _, _, _, _ => none
 | k + 1, x6, xz2000, xz2001, xz2002, xz2003, xz2004, xz3000, xz3001, xz3002, xz3003, xz3004 => if x6 < (xz2003.length : Int) then (if 0 ≤ x6 then (if x6 < (xz3003.length : Int) then (if (!((((rd_T74 xz2003 x6).f0).toList) == (((rd_T74 xz3003 x6).f0).toList)) || (!((((rd_T74 xz2003 x6).f1).toList) == (((rd_T74 xz3003 x6).f1).toList)) || (!((((rd_T74 xz2003 x6).f2).toList) == (((rd_T74 xz3003 x6).f2).toList))))) = true then (some false) else (columbariumref08_Same.l1 k (wrap64 (x6 + 1)) xz2000 xz2001 xz2002 xz2003 xz2004 xz3000 xz3001 xz3002 xz3003 xz3004)) else (none)) else (none)) else (some true)
end
def columbariumref08_Same.f (k : Nat) (a0_0 : ByteArray) (a0_1 : Int) (l0_2 : List (S72)) (l0_3 : List (S74)) (a0_4 : Bool) (a1_0 : ByteArray) (a1_1 : Int) (l1_2 : List (S72)) (l1_3 : List (S74)) (a1_4 : Bool) : Option (Bool) := if (!(a0_0.toList == a1_0.toList) || (!(a0_1 == a1_1))) = true then (columbariumref08_Same.j0 k true a0_0 a0_1 l0_2 l0_3 a0_4 a1_0 a1_1 l1_2 l1_3 a1_4) else (if (a0_4 != a1_4) = true then (columbariumref08_Same.j0 k true a0_0 a0_1 l0_2 l0_3 a0_4 a1_0 a1_1 l1_2 l1_3 a1_4) else (if (l0_2.length : Int) = (l1_2.length : Int) then (columbariumref08_Same.j0 k ((l0_3.length : Int) != (l1_3.length : Int)) a0_0 a0_1 l0_2 l0_3 a0_4 a1_0 a1_1 l1_2 l1_3 a1_4) else (columbariumref08_Same.j0 k true a0_0 a0_1 l0_2 l0_3 a0_4 a1_0 a1_1 l1_2 l1_3 a1_4)))
set_option maxHeartbeats 8000000 in
set_option maxRecDepth 100000 in
theorem columbariumref08_Same.calls (k : Nat) (a0_0 : ByteArray) (a0_1 : Int) (A0_2 : Option Addr) (c0_2 : Nat) (l0_2 : List (S72)) (A0_3 : Option Addr) (c0_3 : Nat) (l0_3 : List (S74)) (a0_4 : Bool) (a1_0 : ByteArray) (a1_1 : Int) (A1_2 : Option Addr) (c1_2 : Nat) (l1_2 : List (S72)) (A1_3 : Option Addr) (c1_3 : Nat) (l1_3 : List (S74)) (a1_4 : Bool) (r : Bool) (w : World) (hr0_2 : Kd.C k72 w A0_2 l0_2.length l0_2) (hc0_2 : l0_2.length ≤ c0_2) (hr0_3 : Kd.C k74 w A0_3 l0_3.length l0_3) (hc0_3 : l0_3.length ≤ c0_3) (hr1_2 : Kd.C k72 w A1_2 l1_2.length l1_2) (hc1_2 : l1_2.length ≤ c1_2) (hr1_3 : Kd.C k74 w A1_3 l1_3.length l1_3) (hc1_3 : l1_3.length ≤ c1_3) (h : columbariumref08_Same.f k a0_0 a0_1 l0_2 l0_3 a0_4 a1_0 a1_1 l1_2 l1_3 a1_4 = some r) :
  Calls Try.prog 32 #[.agg #[.string a0_0, .int .i64 a0_1, .slice A0_2 l0_2.length c0_2, .slice A0_3 l0_3.length c0_3, .bool a0_4], .agg #[.string a1_0, .int .i64 a1_1, .slice A1_2 l1_2.length c1_2, .slice A1_3 l1_3.length c1_3, .bool a1_4]] w fun e w' => e = .returned (.bool r) ∧ Below w.heap.size w w' := by
 have hu50 := Try.underlying50
 have hu23 := Try.underlying23
 have hu72 := Try.underlying72
 have hu74 := Try.underlying74
 have HR0_2 := am hr0_2
 have HC0_2 := am hc0_2
 clear hr0_2 hc0_2
 have HR0_3 := am hr0_3
 have HC0_3 := am hc0_3
 clear hr0_3 hc0_3
 have HR1_2 := am hr1_2
 have HC1_2 := am hc1_2
 clear hr1_2 hc1_2
 have HR1_3 := am hr1_3
 have HC1_3 := am hc1_3
 clear hr1_3 hc1_3
 have HB := am (Below.refl w.heap.size w)
 have H : (if (!(a0_0.toList == a1_0.toList) || (!(a0_1 == a1_1))) = true then (columbariumref08_Same.j0 k true a0_0 a0_1 l0_2 l0_3 a0_4 a1_0 a1_1 l1_2 l1_3 a1_4) else (if (a0_4 != a1_4) = true then (columbariumref08_Same.j0 k true a0_0 a0_1 l0_2 l0_3 a0_4 a1_0 a1_1 l1_2 l1_3 a1_4) else (if (l0_2.length : Int) = (l1_2.length : Int) then (columbariumref08_Same.j0 k ((l0_3.length : Int) != (l1_3.length : Int)) a0_0 a0_1 l0_2 l0_3 a0_4 a1_0 a1_1 l1_2 l1_3 a1_4) else (columbariumref08_Same.j0 k true a0_0 a0_1 l0_2 l0_3 a0_4 a1_0 a1_1 l1_2 l1_3 a1_4)))) = some r := h
 clear h
 have HC3 := am H
 clear H
 go_enter Try.func32, Try.ntmps32
 go_upto_region 1 with (first | ((with_reducible refine gate_dst (N := 2) rfl ?_); (try (refine gate_guard (by rfl) ?_; dsimp only)); refine box_event ?hg (N := 2) ?hd (cs := #[.string a0_0, .int .i64 a0_1, .slice A0_2 l0_2.length c0_2, .slice A0_3 l0_3.length c0_3, .bool a0_4]) (t := 50) ?hr ?_; (case hd => rfl); (case hg => rfl); (case hr => first | (go_simp; done) | (go_simp; rfl)); intro gbz1 hg w4 hbox hb; have n0_ := am (below_step (pb HB) hb); have n1_ := am (hbox); have n2_ := am ((by rw [hg]; exact (below_size (pb HB)) : w.heap.size ≤ gbz1)); have n3_ := am ((by rw [hg]; exact (below_size (pb HB)) : w.heap.size ≤ gbz1)); clear HB; have HB := n0_; have BKz1 := n1_; have GWz1 := n2_; have GEz1 := n3_; clear n0_ n1_ n2_ n3_; clear hb hbox hg) | ((with_reducible refine gate_dst (N := 3) rfl ?_); (try (refine gate_guard (by rfl) ?_; dsimp only)); refine box_event ?hg (N := 3) ?hd (cs := #[.string a1_0, .int .i64 a1_1, .slice A1_2 l1_2.length c1_2, .slice A1_3 l1_3.length c1_3, .bool a1_4]) (t := 50) ?hr ?_; (case hd => rfl); (case hg => rfl); (case hr => first | (go_simp; done) | (go_simp; rfl)); intro gbz2 hg w5 hbox hb; have n0_ := am (blk_below (pk BKz1) hb); have n1_ := am (below_step (by repeat (first | (with_reducible first | exact HB.out | apply below_alloc | apply pw_below_drewN | apply below_drew1 | refine below_set ?_ GEz1.out) | exact HB.out)) hb); have n2_ := am (hbox); have n3_ := am ((by rw [hg]; exact (below_size (by repeat (first | (with_reducible first | exact HB.out | apply below_alloc | apply pw_below_drewN | apply below_drew1 | refine below_set ?_ GEz1.out) | exact HB.out))) : w.heap.size ≤ gbz2)); have n4_ := am ((by rw [hg]; exact (below_size (by repeat (first | (with_reducible first | exact HB.out | apply below_alloc | apply pw_below_drewN | apply below_drew1 | refine below_set ?_ GEz1.out) | exact HB.out))) : w.heap.size ≤ gbz2)); have n5_ := am ((by rw [hg]; exact Nat.ne_of_lt (blk_lt (g := gbz1) (o := .cells #[.string a0_0, .int .i64 a0_1, .slice A0_2 l0_2.length c0_2, .slice A0_3 l0_3.length c0_3, .bool a0_4] 50 (0, 0)) (pk BKz1)) : gbz1 ≠ gbz2)); have n6_ := am ((by rw [hg]; exact Nat.ne_of_gt (blk_lt (g := gbz1) (o := .cells #[.string a0_0, .int .i64 a0_1, .slice A0_2 l0_2.length c0_2, .slice A0_3 l0_3.length c0_3, .bool a0_4] 50 (0, 0)) (pk BKz1)) : gbz2 ≠ gbz1)); clear BKz1; clear HB; have BKz1 := n0_; have HB := n1_; have BKz2 := n2_; have GWz2 := n3_; have GEz2 := n4_; have NBz1_z2 := n5_; have NBz2_z1 := n6_; clear n0_ n1_ n2_ n3_ n4_ n5_ n6_; clear hb hbox hg))
 repeat (go_quiet (first | ((with_reducible refine gate_dst (N := 2) rfl ?_); (try (refine gate_guard (by rfl) ?_; dsimp only)); refine box_event ?hg (N := 2) ?hd (cs := #[.string a0_0, .int .i64 a0_1, .slice A0_2 l0_2.length c0_2, .slice A0_3 l0_3.length c0_3, .bool a0_4]) (t := 50) ?hr ?_; (case hd => rfl); (case hg => rfl); (case hr => first | (go_simp; done) | (go_simp; rfl)); intro gbz1 hg w4 hbox hb; have n0_ := am (below_step (pb HB) hb); have n1_ := am (hbox); have n2_ := am ((by rw [hg]; exact (below_size (pb HB)) : w.heap.size ≤ gbz1)); have n3_ := am ((by rw [hg]; exact (below_size (pb HB)) : w.heap.size ≤ gbz1)); clear HB; have HB := n0_; have BKz1 := n1_; have GWz1 := n2_; have GEz1 := n3_; clear n0_ n1_ n2_ n3_; clear hb hbox hg) | ((with_reducible refine gate_dst (N := 3) rfl ?_); (try (refine gate_guard (by rfl) ?_; dsimp only)); refine box_event ?hg (N := 3) ?hd (cs := #[.string a1_0, .int .i64 a1_1, .slice A1_2 l1_2.length c1_2, .slice A1_3 l1_3.length c1_3, .bool a1_4]) (t := 50) ?hr ?_; (case hd => rfl); (case hg => rfl); (case hr => first | (go_simp; done) | (go_simp; rfl)); intro gbz2 hg w5 hbox hb; have n0_ := am (blk_below (pk BKz1) hb); have n1_ := am (below_step (by repeat (first | (with_reducible first | exact HB.out | apply below_alloc | apply pw_below_drewN | apply below_drew1 | refine below_set ?_ GEz1.out) | exact HB.out)) hb); have n2_ := am (hbox); have n3_ := am ((by rw [hg]; exact (below_size (by repeat (first | (with_reducible first | exact HB.out | apply below_alloc | apply pw_below_drewN | apply below_drew1 | refine below_set ?_ GEz1.out) | exact HB.out))) : w.heap.size ≤ gbz2)); have n4_ := am ((by rw [hg]; exact (below_size (by repeat (first | (with_reducible first | exact HB.out | apply below_alloc | apply pw_below_drewN | apply below_drew1 | refine below_set ?_ GEz1.out) | exact HB.out))) : w.heap.size ≤ gbz2)); have n5_ := am ((by rw [hg]; exact Nat.ne_of_lt (blk_lt (g := gbz1) (o := .cells #[.string a0_0, .int .i64 a0_1, .slice A0_2 l0_2.length c0_2, .slice A0_3 l0_3.length c0_3, .bool a0_4] 50 (0, 0)) (pk BKz1)) : gbz1 ≠ gbz2)); have n6_ := am ((by rw [hg]; exact Nat.ne_of_gt (blk_lt (g := gbz1) (o := .cells #[.string a0_0, .int .i64 a0_1, .slice A0_2 l0_2.length c0_2, .slice A0_3 l0_3.length c0_3, .bool a0_4] 50 (0, 0)) (pk BKz1)) : gbz2 ≠ gbz1)); clear BKz1; clear HB; have BKz1 := n0_; have HB := n1_; have BKz2 := n2_; have GWz2 := n3_; have GEz2 := n4_; have NBz1_z2 := n5_; have NBz2_z1 := n6_; clear n0_ n1_ n2_ n3_ n4_ n5_ n6_; clear hb hbox hg)); go_upto_region 1 with (first | ((with_reducible refine gate_dst (N := 2) rfl ?_); (try (refine gate_guard (by rfl) ?_; dsimp only)); refine box_event ?hg (N := 2) ?hd (cs := #[.string a0_0, .int .i64 a0_1, .slice A0_2 l0_2.length c0_2, .slice A0_3 l0_3.length c0_3, .bool a0_4]) (t := 50) ?hr ?_; (case hd => rfl); (case hg => rfl); (case hr => first | (go_simp; done) | (go_simp; rfl)); intro gbz1 hg w4 hbox hb; have n0_ := am (below_step (pb HB) hb); have n1_ := am (hbox); have n2_ := am ((by rw [hg]; exact (below_size (pb HB)) : w.heap.size ≤ gbz1)); have n3_ := am ((by rw [hg]; exact (below_size (pb HB)) : w.heap.size ≤ gbz1)); clear HB; have HB := n0_; have BKz1 := n1_; have GWz1 := n2_; have GEz1 := n3_; clear n0_ n1_ n2_ n3_; clear hb hbox hg) | ((with_reducible refine gate_dst (N := 3) rfl ?_); (try (refine gate_guard (by rfl) ?_; dsimp only)); refine box_event ?hg (N := 3) ?hd (cs := #[.string a1_0, .int .i64 a1_1, .slice A1_2 l1_2.length c1_2, .slice A1_3 l1_3.length c1_3, .bool a1_4]) (t := 50) ?hr ?_; (case hd => rfl); (case hg => rfl); (case hr => first | (go_simp; done) | (go_simp; rfl)); intro gbz2 hg w5 hbox hb; have n0_ := am (blk_below (pk BKz1) hb); have n1_ := am (below_step (by repeat (first | (with_reducible first | exact HB.out | apply below_alloc | apply pw_below_drewN | apply below_drew1 | refine below_set ?_ GEz1.out) | exact HB.out)) hb); have n2_ := am (hbox); have n3_ := am ((by rw [hg]; exact (below_size (by repeat (first | (with_reducible first | exact HB.out | apply below_alloc | apply pw_below_drewN | apply below_drew1 | refine below_set ?_ GEz1.out) | exact HB.out))) : w.heap.size ≤ gbz2)); have n4_ := am ((by rw [hg]; exact (below_size (by repeat (first | (with_reducible first | exact HB.out | apply below_alloc | apply pw_below_drewN | apply below_drew1 | refine below_set ?_ GEz1.out) | exact HB.out))) : w.heap.size ≤ gbz2)); have n5_ := am ((by rw [hg]; exact Nat.ne_of_lt (blk_lt (g := gbz1) (o := .cells #[.string a0_0, .int .i64 a0_1, .slice A0_2 l0_2.length c0_2, .slice A0_3 l0_3.length c0_3, .bool a0_4] 50 (0, 0)) (pk BKz1)) : gbz1 ≠ gbz2)); have n6_ := am ((by rw [hg]; exact Nat.ne_of_gt (blk_lt (g := gbz1) (o := .cells #[.string a0_0, .int .i64 a0_1, .slice A0_2 l0_2.length c0_2, .slice A0_3 l0_3.length c0_3, .bool a0_4] 50 (0, 0)) (pk BKz1)) : gbz2 ≠ gbz1)); clear BKz1; clear HB; have BKz1 := n0_; have HB := n1_; have BKz2 := n2_; have GWz2 := n3_; have GEz2 := n4_; have NBz1_z2 := n5_; have NBz2_z1 := n6_; clear n0_ n1_ n2_ n3_ n4_ n5_ n6_; clear hb hbox hg)))
 (try simp only [Act.put, List.setIfInBounds_toArray, List.set_cons_zero, List.set_cons_succ])
 go_cut [36] (fun v36 wc => ∃ (kq : Nat) (x36_2 : Bool), v36 = .bool x36_2 ∧ Aside0 (columbariumref08_Same.j0 kq x36_2 a0_0 a0_1 l0_2 l0_3 a0_4 a1_0 a1_1 l1_2 l1_3 a1_4 = some r) ∧ Aside0 (kq ≤ k) ∧ Aside0 (wc.heap[gbz1]? = some (.cells #[.string a0_0, .int .i64 a0_1, (.slice A0_2 l0_2.length c0_2), (.slice A0_3 l0_3.length c0_3), .bool a0_4] 50 (0, 0))) ∧ Aside0 (wc.heap[gbz2]? = some (.cells #[.string a1_0, .int .i64 a1_1, (.slice A1_2 l1_2.length c1_2), (.slice A1_3 l1_3.length c1_3), .bool a1_4] 50 (0, 0))) ∧ Aside0 (Below w.heap.size w wc))
 case first =>
  have H := HC3.out
  clear HC3
  by_cases c6 : (!(a0_0.toList == a1_0.toList) || (!(a0_1 == a1_1))) = true
  ·rw [if_pos c6] at H
   have c6b0 : (!(a0_0.toList == a1_0.toList) || (!(a0_1 == a1_1))) = true := c6
   clear c6
   (first | rw [c6b0] | rw [c6b1] | (simp only [i64_w, i32_w]; rw [c6b0]) | skip)
   have H' := am H
   clear H
   have hnb7 := NBz1_z2.out
   have hnc7 := NBz2_z1.out
   have hcz8_0 : w5.cell? ⟨gbz1, 0, none⟩ = some (.string a0_0) := (blk_cell BKz1.out 0).trans rfl
   have hcz8_1 : w5.cell? ⟨gbz1, 1, none⟩ = some (.int .i64 a0_1) := (blk_cell BKz1.out 1).trans rfl
   have hcz8_2 : w5.cell? ⟨gbz1, 2, none⟩ = some (.slice A0_2 l0_2.length c0_2) := (blk_cell BKz1.out 2).trans rfl
   have hcz8_3 : w5.cell? ⟨gbz1, 3, none⟩ = some (.slice A0_3 l0_3.length c0_3) := (blk_cell BKz1.out 3).trans rfl
   have hcz8_4 : w5.cell? ⟨gbz1, 4, none⟩ = some (.bool a0_4) := (blk_cell BKz1.out 4).trans rfl
   have hfz8_0 := blk_frozen BKz1.out 0
   have hfz8_1 := blk_frozen BKz1.out 1
   have hfz8_2 := blk_frozen BKz1.out 2
   have hfz8_3 := blk_frozen BKz1.out 3
   have hfz8_4 := blk_frozen BKz1.out 4
   have hcz9_0 : w5.cell? ⟨gbz2, 0, none⟩ = some (.string a1_0) := (blk_cell BKz2.out 0).trans rfl
   have hcz9_1 : w5.cell? ⟨gbz2, 1, none⟩ = some (.int .i64 a1_1) := (blk_cell BKz2.out 1).trans rfl
   have hcz9_2 : w5.cell? ⟨gbz2, 2, none⟩ = some (.slice A1_2 l1_2.length c1_2) := (blk_cell BKz2.out 2).trans rfl
   have hcz9_3 : w5.cell? ⟨gbz2, 3, none⟩ = some (.slice A1_3 l1_3.length c1_3) := (blk_cell BKz2.out 3).trans rfl
   have hcz9_4 : w5.cell? ⟨gbz2, 4, none⟩ = some (.bool a1_4) := (blk_cell BKz2.out 4).trans rfl
   have hfz9_0 := blk_frozen BKz2.out 0
   have hfz9_1 := blk_frozen BKz2.out 1
   have hfz9_2 := blk_frozen BKz2.out 2
   have hfz9_3 := blk_frozen BKz2.out 3
   have hfz9_4 := blk_frozen BKz2.out 4
   go_wp2
   repeat (go_quiet (fail); try go_wp2)
   go_meet
   case rel => exact ⟨_, (true), (by first | rfl | (simp; done) | (simp [*]; done)), H', ⟨by first | omega | exact Nat.le_refl _⟩, ⟨by (with_reducible repeat (first | refine blk_drewN ?_ _ | refine blk_drew ?_ | refine blk_alloc ?_ _)); exact BKz1.out⟩, ⟨by (with_reducible repeat (first | refine blk_drewN ?_ _ | refine blk_drew ?_ | refine blk_alloc ?_ _)); exact BKz2.out⟩, ⟨by repeat (first | (with_reducible first | exact HB.out | apply below_alloc | apply pw_below_drewN | apply below_drew1 | refine below_set ?_ GEz1.out | refine below_set ?_ GEz2.out) | exact HB.out)⟩⟩
  rw [if_neg c6] at H
  have c6b0 : (!(a0_0.toList == a1_0.toList) || (!(a0_1 == a1_1))) = false := by simpa using c6
  clear c6
  (first | rw [c6b0] | rw [c6b1] | (simp only [i64_w, i32_w]; rw [c6b0]) | skip)
  by_cases c10 : (a0_4 != a1_4) = true
  ·rw [if_pos c10] at H
   have c10b0 : (a0_4 != a1_4) = true := c10
   (try (have c10b1 : decide (a0_4 = a1_4) = false := by simpa using c10))
   (try (have c10b2 : (a0_4 == a1_4) = false := by simpa using c10))
   (try (have c10b3 : ¬ (a0_4 = a1_4) := by simpa using c10))
   clear c10
   have H' := am H
   clear H
   have hnb11 := NBz1_z2.out
   have hnc11 := NBz2_z1.out
   have hcz12_0 : w5.cell? ⟨gbz1, 0, none⟩ = some (.string a0_0) := (blk_cell BKz1.out 0).trans rfl
   have hcz12_1 : w5.cell? ⟨gbz1, 1, none⟩ = some (.int .i64 a0_1) := (blk_cell BKz1.out 1).trans rfl
   have hcz12_2 : w5.cell? ⟨gbz1, 2, none⟩ = some (.slice A0_2 l0_2.length c0_2) := (blk_cell BKz1.out 2).trans rfl
   have hcz12_3 : w5.cell? ⟨gbz1, 3, none⟩ = some (.slice A0_3 l0_3.length c0_3) := (blk_cell BKz1.out 3).trans rfl
   have hcz12_4 : w5.cell? ⟨gbz1, 4, none⟩ = some (.bool a0_4) := (blk_cell BKz1.out 4).trans rfl
   have hfz12_0 := blk_frozen BKz1.out 0
   have hfz12_1 := blk_frozen BKz1.out 1
   have hfz12_2 := blk_frozen BKz1.out 2
   have hfz12_3 := blk_frozen BKz1.out 3
   have hfz12_4 := blk_frozen BKz1.out 4
   have hcz13_0 : w5.cell? ⟨gbz2, 0, none⟩ = some (.string a1_0) := (blk_cell BKz2.out 0).trans rfl
   have hcz13_1 : w5.cell? ⟨gbz2, 1, none⟩ = some (.int .i64 a1_1) := (blk_cell BKz2.out 1).trans rfl
   have hcz13_2 : w5.cell? ⟨gbz2, 2, none⟩ = some (.slice A1_2 l1_2.length c1_2) := (blk_cell BKz2.out 2).trans rfl
   have hcz13_3 : w5.cell? ⟨gbz2, 3, none⟩ = some (.slice A1_3 l1_3.length c1_3) := (blk_cell BKz2.out 3).trans rfl
   have hcz13_4 : w5.cell? ⟨gbz2, 4, none⟩ = some (.bool a1_4) := (blk_cell BKz2.out 4).trans rfl
   have hfz13_0 := blk_frozen BKz2.out 0
   have hfz13_1 := blk_frozen BKz2.out 1
   have hfz13_2 := blk_frozen BKz2.out 2
   have hfz13_3 := blk_frozen BKz2.out 3
   have hfz13_4 := blk_frozen BKz2.out 4
   go_wp2
   repeat (go_quiet (fail); try go_wp2)
   go_meet
   case rel => exact ⟨_, (true), (by first | rfl | (simp; done) | (simp [*]; done)), H', ⟨by first | omega | exact Nat.le_refl _⟩, ⟨by (with_reducible repeat (first | refine blk_drewN ?_ _ | refine blk_drew ?_ | refine blk_alloc ?_ _)); exact BKz1.out⟩, ⟨by (with_reducible repeat (first | refine blk_drewN ?_ _ | refine blk_drew ?_ | refine blk_alloc ?_ _)); exact BKz2.out⟩, ⟨by repeat (first | (with_reducible first | exact HB.out | apply below_alloc | apply pw_below_drewN | apply below_drew1 | refine below_set ?_ GEz1.out | refine below_set ?_ GEz2.out) | exact HB.out)⟩⟩
  rw [if_neg c10] at H
  have c10b0 : (a0_4 != a1_4) = false := by simpa using c10
  (try (have c10b1 : decide (a0_4 = a1_4) = true := by simpa using c10))
  (try (have c10b2 : (a0_4 == a1_4) = true := by simpa using c10))
  clear c10
  by_cases c14 : (l0_2.length : Int) = (l1_2.length : Int)
  rotate_left
  ·rw [if_neg c14] at H
   have c14b0 : ((l0_2.length : Int) == (l1_2.length : Int)) = false := beq_eq_false_iff_ne.mpr c14
   have c14b1 : ((l0_2.length : Int) != (l1_2.length : Int)) = true := bne_iff_ne.mpr c14
   have c14b2 : (l0_2.length == l1_2.length) = false := by first | simpa using c14 | (simp at c14 ⊢; omega)
   have H' := am H
   clear H
   have hnb18 := NBz1_z2.out
   have hnc18 := NBz2_z1.out
   have hcz19_0 : w5.cell? ⟨gbz1, 0, none⟩ = some (.string a0_0) := (blk_cell BKz1.out 0).trans rfl
   have hcz19_1 : w5.cell? ⟨gbz1, 1, none⟩ = some (.int .i64 a0_1) := (blk_cell BKz1.out 1).trans rfl
   have hcz19_2 : w5.cell? ⟨gbz1, 2, none⟩ = some (.slice A0_2 l0_2.length c0_2) := (blk_cell BKz1.out 2).trans rfl
   have hcz19_3 : w5.cell? ⟨gbz1, 3, none⟩ = some (.slice A0_3 l0_3.length c0_3) := (blk_cell BKz1.out 3).trans rfl
   have hcz19_4 : w5.cell? ⟨gbz1, 4, none⟩ = some (.bool a0_4) := (blk_cell BKz1.out 4).trans rfl
   have hfz19_0 := blk_frozen BKz1.out 0
   have hfz19_1 := blk_frozen BKz1.out 1
   have hfz19_2 := blk_frozen BKz1.out 2
   have hfz19_3 := blk_frozen BKz1.out 3
   have hfz19_4 := blk_frozen BKz1.out 4
   have hcz20_0 : w5.cell? ⟨gbz2, 0, none⟩ = some (.string a1_0) := (blk_cell BKz2.out 0).trans rfl
   have hcz20_1 : w5.cell? ⟨gbz2, 1, none⟩ = some (.int .i64 a1_1) := (blk_cell BKz2.out 1).trans rfl
   have hcz20_2 : w5.cell? ⟨gbz2, 2, none⟩ = some (.slice A1_2 l1_2.length c1_2) := (blk_cell BKz2.out 2).trans rfl
   have hcz20_3 : w5.cell? ⟨gbz2, 3, none⟩ = some (.slice A1_3 l1_3.length c1_3) := (blk_cell BKz2.out 3).trans rfl
   have hcz20_4 : w5.cell? ⟨gbz2, 4, none⟩ = some (.bool a1_4) := (blk_cell BKz2.out 4).trans rfl
   have hfz20_0 := blk_frozen BKz2.out 0
   have hfz20_1 := blk_frozen BKz2.out 1
   have hfz20_2 := blk_frozen BKz2.out 2
   have hfz20_3 := blk_frozen BKz2.out 3
   have hfz20_4 := blk_frozen BKz2.out 4
   go_wp2
   repeat (go_quiet (fail); try go_wp2)
   go_meet
   case rel => exact ⟨_, (true), (by first | rfl | (simp; done) | (simp [*]; done)), H', ⟨by first | omega | exact Nat.le_refl _⟩, ⟨by (with_reducible repeat (first | refine blk_drewN ?_ _ | refine blk_drew ?_ | refine blk_alloc ?_ _)); exact BKz1.out⟩, ⟨by (with_reducible repeat (first | refine blk_drewN ?_ _ | refine blk_drew ?_ | refine blk_alloc ?_ _)); exact BKz2.out⟩, ⟨by repeat (first | (with_reducible first | exact HB.out | apply below_alloc | apply pw_below_drewN | apply below_drew1 | refine below_set ?_ GEz1.out | refine below_set ?_ GEz2.out) | exact HB.out)⟩⟩
  rw [if_pos c14] at H
  have c14b0 : ((l0_2.length : Int) == (l1_2.length : Int)) = true := beq_iff_eq.mpr c14
  have c14b1 : ((l0_2.length : Int) != (l1_2.length : Int)) = false := bne_eq_false_iff_eq.mpr c14
  have c14b2 : (l0_2.length == l1_2.length) = true := by first | simpa using c14 | (simp at c14 ⊢; omega)
  clear c14
  have H' := am H
  clear H
  have hnb15 := NBz1_z2.out
  have hnc15 := NBz2_z1.out
  have hcz16_0 : w5.cell? ⟨gbz1, 0, none⟩ = some (.string a0_0) := (blk_cell BKz1.out 0).trans rfl
  have hcz16_1 : w5.cell? ⟨gbz1, 1, none⟩ = some (.int .i64 a0_1) := (blk_cell BKz1.out 1).trans rfl
  have hcz16_2 : w5.cell? ⟨gbz1, 2, none⟩ = some (.slice A0_2 l0_2.length c0_2) := (blk_cell BKz1.out 2).trans rfl
  have hcz16_3 : w5.cell? ⟨gbz1, 3, none⟩ = some (.slice A0_3 l0_3.length c0_3) := (blk_cell BKz1.out 3).trans rfl
  have hcz16_4 : w5.cell? ⟨gbz1, 4, none⟩ = some (.bool a0_4) := (blk_cell BKz1.out 4).trans rfl
  have hfz16_0 := blk_frozen BKz1.out 0
  have hfz16_1 := blk_frozen BKz1.out 1
  have hfz16_2 := blk_frozen BKz1.out 2
  have hfz16_3 := blk_frozen BKz1.out 3
  have hfz16_4 := blk_frozen BKz1.out 4
  have hcz17_0 : w5.cell? ⟨gbz2, 0, none⟩ = some (.string a1_0) := (blk_cell BKz2.out 0).trans rfl
  have hcz17_1 : w5.cell? ⟨gbz2, 1, none⟩ = some (.int .i64 a1_1) := (blk_cell BKz2.out 1).trans rfl
  have hcz17_2 : w5.cell? ⟨gbz2, 2, none⟩ = some (.slice A1_2 l1_2.length c1_2) := (blk_cell BKz2.out 2).trans rfl
  have hcz17_3 : w5.cell? ⟨gbz2, 3, none⟩ = some (.slice A1_3 l1_3.length c1_3) := (blk_cell BKz2.out 3).trans rfl
  have hcz17_4 : w5.cell? ⟨gbz2, 4, none⟩ = some (.bool a1_4) := (blk_cell BKz2.out 4).trans rfl
  have hfz17_0 := blk_frozen BKz2.out 0
  have hfz17_1 := blk_frozen BKz2.out 1
  have hfz17_2 := blk_frozen BKz2.out 2
  have hfz17_3 := blk_frozen BKz2.out 3
  have hfz17_4 := blk_frozen BKz2.out 4
  go_wp2
  repeat (go_quiet (fail); try go_wp2)
  go_meet
  case rel => exact ⟨_, (((l0_3.length : Int) != (l1_3.length : Int))), (by first | rfl | (simp; done) | (simp [*]; done)), H', ⟨by first | omega | exact Nat.le_refl _⟩, ⟨by (with_reducible repeat (first | refine blk_drewN ?_ _ | refine blk_drew ?_ | refine blk_alloc ?_ _)); exact BKz1.out⟩, ⟨by (with_reducible repeat (first | refine blk_drewN ?_ _ | refine blk_drew ?_ | refine blk_alloc ?_ _)); exact BKz2.out⟩, ⟨by repeat (first | (with_reducible first | exact HB.out | apply below_alloc | apply pw_below_drewN | apply below_drew1 | refine below_set ?_ GEz1.out | refine below_set ?_ GEz2.out) | exact HB.out)⟩⟩
 case rest =>
  clear HC3
  try clear c1
  try clear p2
  try clear c3
  try clear c6
  try clear c6b0
  try clear c6b1
  try clear c7
  try clear c10
  try clear c10b0
  try clear c10b1
  try clear c10b2
  try clear c11
  try clear c14
  try clear c14b0
  try clear c14b1
  try clear c14b2
  try clear c15
  try clear c18
  try clear hcz12_0
  try clear hcz12_1
  try clear hcz12_2
  try clear hcz12_3
  try clear hcz12_4
  try clear hcz13_0
  try clear hcz13_1
  try clear hcz13_2
  try clear hcz13_3
  try clear hcz13_4
  try clear hcz16_0
  try clear hcz16_1
  try clear hcz16_2
  try clear hcz16_3
  try clear hcz16_4
  try clear hcz17_0
  try clear hcz17_1
  try clear hcz17_2
  try clear hcz17_3
  try clear hcz17_4
  try clear hcz19_0
  try clear hcz19_1
  try clear hcz19_2
  try clear hcz19_3
  try clear hcz19_4
  try clear hcz20_0
  try clear hcz20_1
  try clear hcz20_2
  try clear hcz20_3
  try clear hcz20_4
  try clear hcz8_0
  try clear hcz8_1
  try clear hcz8_2
  try clear hcz8_3
  try clear hcz8_4
  try clear hcz9_0
  try clear hcz9_1
  try clear hcz9_2
  try clear hcz9_3
  try clear hcz9_4
  try clear hfz12_0
  try clear hfz12_1
  try clear hfz12_2
  try clear hfz12_3
  try clear hfz12_4
  try clear hfz13_0
  try clear hfz13_1
  try clear hfz13_2
  try clear hfz13_3
  try clear hfz13_4
  try clear hfz16_0
  try clear hfz16_1
  try clear hfz16_2
  try clear hfz16_3
  try clear hfz16_4
  try clear hfz17_0
  try clear hfz17_1
  try clear hfz17_2
  try clear hfz17_3
  try clear hfz17_4
  try clear hfz19_0
  try clear hfz19_1
  try clear hfz19_2
  try clear hfz19_3
  try clear hfz19_4
  try clear hfz20_0
  try clear hfz20_1
  try clear hfz20_2
  try clear hfz20_3
  try clear hfz20_4
  try clear hfz8_0
  try clear hfz8_1
  try clear hfz8_2
  try clear hfz8_3
  try clear hfz8_4
  try clear hfz9_0
  try clear hfz9_1
  try clear hfz9_2
  try clear hfz9_3
  try clear hfz9_4
  obtain ⟨kq, x36_2, rfl, HA, HJ2, BKz1, BKz2, HB⟩ := hcut
  cases kq with
  | zero => exact absurd HA.out (by simp [columbariumref08_Same.j0])
  | succ kj2 =>
   have H := HA.out
   clear HA
   simp only [columbariumref08_Same.j0] at H
   by_cases c21 : x36_2 = true
   ·subst c21
    have H1 : (some false) = some r := by rw [if_pos rfl] at H; exact H
    clear H
    have H := H1
    clear H1
    obtain rfl := Option.some.inj H
    go_wp2
    repeat (go_quiet (fail); try go_wp2)
    go_ret
    exact ⟨by first | rfl | (simp [errW_none, errW_some] <;> rfl) | (simp [*, errW_none, errW_some] <;> rfl), by repeat (first | (with_reducible first | exact HB.out | apply below_alloc | apply pw_below_drewN | apply below_drew1 | refine below_set ?_ GEz1.out | refine below_set ?_ GEz2.out) | exact HB.out)⟩
   replace c21 := Bool.eq_false_iff.mpr c21
   subst c21
   have H1 : (columbariumref08_Same.l0 kj2 0 a0_0 a0_1 l0_2 l0_3 a0_4 a1_0 a1_1 l1_2 l1_3 a1_4) = some r := by rw [if_neg (show ¬ (false = true) by decide)] at H; exact H
   clear H
   have H := H1
   clear H1
   have H' := am H
   clear H
   go_wp2
   repeat (go_quiet (fail); try go_wp2)
   go_loopg [5] kj2 (fun kq v5 w' => ∃ (x5_2 : Int), v5 = .int .i64 x5_2 ∧ Aside0 (columbariumref08_Same.l0 kq x5_2 a0_0 a0_1 l0_2 l0_3 a0_4 a1_0 a1_1 l1_2 l1_3 a1_4 = some r) ∧ Aside0 (kq ≤ kj2) ∧ Aside0 (w'.heap[gbz1]? = some (.cells #[.string a0_0, .int .i64 a0_1, (.slice A0_2 l0_2.length c0_2), (.slice A0_3 l0_3.length c0_3), .bool a0_4] 50 (0, 0))) ∧ Aside0 (w'.heap[gbz2]? = some (.cells #[.string a1_0, .int .i64 a1_1, (.slice A1_2 l1_2.length c1_2), (.slice A1_3 l1_3.length c1_3), .bool a1_4] 50 (0, 0))) ∧ Aside0 (Below w.heap.size w w'))
   case atStart => exact ⟨(0), (by first | rfl | (simp; done) | (simp [*]; done)), H', ⟨Nat.le_refl _⟩, ⟨by (with_reducible repeat (first | refine blk_drewN ?_ _ | refine blk_drew ?_ | refine blk_alloc ?_ _)); exact BKz1.out⟩, ⟨by (with_reducible repeat (first | refine blk_drewN ?_ _ | refine blk_drew ?_ | refine blk_alloc ?_ _)); exact BKz2.out⟩, ⟨by repeat (first | (with_reducible first | exact HB.out | apply below_alloc | apply pw_below_drewN | apply below_drew1 | refine below_set ?_ GEz1.out | refine below_set ?_ GEz2.out) | exact HB.out)⟩⟩
   case round =>
    clear H'
    try clear c1
    try clear c2
    try clear p2
    try clear c3
    try clear c6
    try clear c6b0
    try clear c6b1
    try clear c7
    try clear c10
    try clear c10b0
    try clear c10b1
    try clear c10b2
    try clear c11
    try clear c14
    try clear c14b0
    try clear c14b1
    try clear c14b2
    try clear c15
    try clear c18
    try clear c21
    try clear hcz12_0
    try clear hcz12_1
    try clear hcz12_2
    try clear hcz12_3
    try clear hcz12_4
    try clear hcz13_0
    try clear hcz13_1
    try clear hcz13_2
    try clear hcz13_3
    try clear hcz13_4
    try clear hcz16_0
    try clear hcz16_1
    try clear hcz16_2
    try clear hcz16_3
    try clear hcz16_4
    try clear hcz17_0
    try clear hcz17_1
    try clear hcz17_2
    try clear hcz17_3
    try clear hcz17_4
    try clear hcz19_0
    try clear hcz19_1
    try clear hcz19_2
    try clear hcz19_3
    try clear hcz19_4
    try clear hcz20_0
    try clear hcz20_1
    try clear hcz20_2
    try clear hcz20_3
    try clear hcz20_4
    try clear hcz8_0
    try clear hcz8_1
    try clear hcz8_2
    try clear hcz8_3
    try clear hcz8_4
    try clear hcz9_0
    try clear hcz9_1
    try clear hcz9_2
    try clear hcz9_3
    try clear hcz9_4
    try clear hfz12_0
    try clear hfz12_1
    try clear hfz12_2
    try clear hfz12_3
    try clear hfz12_4
    try clear hfz13_0
    try clear hfz13_1
    try clear hfz13_2
    try clear hfz13_3
    try clear hfz13_4
    try clear hfz16_0
    try clear hfz16_1
    try clear hfz16_2
    try clear hfz16_3
    try clear hfz16_4
    try clear hfz17_0
    try clear hfz17_1
    try clear hfz17_2
    try clear hfz17_3
    try clear hfz17_4
    try clear hfz19_0
    try clear hfz19_1
    try clear hfz19_2
    try clear hfz19_3
    try clear hfz19_4
    try clear hfz20_0
    try clear hfz20_1
    try clear hfz20_2
    try clear hfz20_3
    try clear hfz20_4
    try clear hfz8_0
    try clear hfz8_1
    try clear hfz8_2
    try clear hfz8_3
    try clear hfz8_4
    try clear hfz9_0
    try clear hfz9_1
    try clear hfz9_2
    try clear hfz9_3
    try clear hfz9_4
    try clear p2
    obtain ⟨x5_2, rfl, HA, HK2, BKz1, BKz2, HB⟩ := hrel
    cases gk with
    | zero => exact absurd HA.out (by simp [columbariumref08_Same.l0])
    | succ k2 =>
     have H := HA.out
     clear HA
     simp only [columbariumref08_Same.l0] at H
     by_cases c22 : x5_2 < (l0_2.length : Int)
     ·rw [if_pos c22] at H
      have c22b0 : decide (x5_2 < (l0_2.length : Int)) = true := decide_eq_true c22
      clear c22
      by_cases c23 : 0 ≤ x5_2
      rotate_left
      ·rw [if_neg c23] at H
       exact absurd H (by simp)
      rw [if_pos c23] at H
      have c23b0 : decide (0 ≤ x5_2) = true := decide_eq_true c23
      clear c23
      by_cases c24 : x5_2 < (l1_2.length : Int)
      rotate_left
      ·rw [if_neg c24] at H
       exact absurd H (by simp)
      rw [if_pos c24] at H
      have c24b0 : decide (x5_2 < (l1_2.length : Int)) = true := decide_eq_true c24
      clear c24
      by_cases c25 : (!((((rd_T72 l0_2 x5_2).f0).toList) == (((rd_T72 l1_2 x5_2).f0).toList)) || (!((((rd_T72 l0_2 x5_2).f1).toList) == (((rd_T72 l1_2 x5_2).f1).toList)))) = true
      ·rw [if_pos c25] at H
       have c25b0 : (!((((rd_T72 l0_2 x5_2).f0).toList) == (((rd_T72 l1_2 x5_2).f0).toList)) || (!((((rd_T72 l0_2 x5_2).f1).toList) == (((rd_T72 l1_2 x5_2).f1).toList)))) = true := c25
       clear c25
       obtain rfl := Option.some.inj H
       have hnb26 := NBz1_z2.out
       have hnc26 := NBz2_z1.out
       have hcz27_0 : wr.cell? ⟨gbz1, 0, none⟩ = some (.string a0_0) := (blk_cell BKz1.out 0).trans rfl
       have hcz27_1 : wr.cell? ⟨gbz1, 1, none⟩ = some (.int .i64 a0_1) := (blk_cell BKz1.out 1).trans rfl
       have hcz27_2 : wr.cell? ⟨gbz1, 2, none⟩ = some (.slice A0_2 l0_2.length c0_2) := (blk_cell BKz1.out 2).trans rfl
       have hcz27_3 : wr.cell? ⟨gbz1, 3, none⟩ = some (.slice A0_3 l0_3.length c0_3) := (blk_cell BKz1.out 3).trans rfl
       have hcz27_4 : wr.cell? ⟨gbz1, 4, none⟩ = some (.bool a0_4) := (blk_cell BKz1.out 4).trans rfl
       have hfz27_0 := blk_frozen BKz1.out 0
       have hfz27_1 := blk_frozen BKz1.out 1
       have hfz27_2 := blk_frozen BKz1.out 2
       have hfz27_3 := blk_frozen BKz1.out 3
       have hfz27_4 := blk_frozen BKz1.out 4
       have pz3 : 0 ≤ (x5_2 : Int) := of_decide_eq_true (by first | (with_reducible assumption) | assumption)
       have qz3 : x5_2 < (l0_2.length : Int) := of_decide_eq_true (by first | (with_reducible assumption) | assumption)
       obtain ⟨adz3, ez3, hxz3_0, hxz3_1⟩ := at_T72 HR0_2.out x5_2 pz3 qz3
       cases ez3
       replace hxz3_0 := (HB.out.cell (World.block_lt_of_cell? w _ hxz3_0)).trans hxz3_0
       replace hxz3_1 := (HB.out.cell (World.block_lt_of_cell? w _ hxz3_1)).trans hxz3_1
       replace pz3 := eq_true pz3
       replace qz3 := eq_true qz3
       have hcz28_0 : wr.cell? ⟨gbz2, 0, none⟩ = some (.string a1_0) := (blk_cell BKz2.out 0).trans rfl
       have hcz28_1 : wr.cell? ⟨gbz2, 1, none⟩ = some (.int .i64 a1_1) := (blk_cell BKz2.out 1).trans rfl
       have hcz28_2 : wr.cell? ⟨gbz2, 2, none⟩ = some (.slice A1_2 l1_2.length c1_2) := (blk_cell BKz2.out 2).trans rfl
       have hcz28_3 : wr.cell? ⟨gbz2, 3, none⟩ = some (.slice A1_3 l1_3.length c1_3) := (blk_cell BKz2.out 3).trans rfl
       have hcz28_4 : wr.cell? ⟨gbz2, 4, none⟩ = some (.bool a1_4) := (blk_cell BKz2.out 4).trans rfl
       have hfz28_0 := blk_frozen BKz2.out 0
       have hfz28_1 := blk_frozen BKz2.out 1
       have hfz28_2 := blk_frozen BKz2.out 2
       have hfz28_3 := blk_frozen BKz2.out 3
       have hfz28_4 := blk_frozen BKz2.out 4
       have pz4 : 0 ≤ (x5_2 : Int) := of_decide_eq_true (by first | (with_reducible assumption) | assumption)
       have qz4 : x5_2 < (l1_2.length : Int) := of_decide_eq_true (by first | (with_reducible assumption) | assumption)
       obtain ⟨adz4, ez4, hxz4_0, hxz4_1⟩ := at_T72 HR1_2.out x5_2 pz4 qz4
       cases ez4
       replace hxz4_0 := (HB.out.cell (World.block_lt_of_cell? w _ hxz4_0)).trans hxz4_0
       replace hxz4_1 := (HB.out.cell (World.block_lt_of_cell? w _ hxz4_1)).trans hxz4_1
       replace pz4 := eq_true pz4
       replace qz4 := eq_true qz4
       go_wp2
       repeat (go_quiet (fail); try go_wp2)
       go_ret
       exact ⟨by first | rfl | (simp [errW_none, errW_some] <;> rfl) | (simp [*, errW_none, errW_some] <;> rfl), by repeat (first | (with_reducible first | exact HB.out | apply below_alloc | apply pw_below_drewN | apply below_drew1 | refine below_set ?_ GEz1.out | refine below_set ?_ GEz2.out) | exact HB.out)⟩
      rw [if_neg c25] at H
      have c25b0 : (!((((rd_T72 l0_2 x5_2).f0).toList) == (((rd_T72 l1_2 x5_2).f0).toList)) || (!((((rd_T72 l0_2 x5_2).f1).toList) == (((rd_T72 l1_2 x5_2).f1).toList)))) = false := by simpa using c25
      clear c25
      have H' := am H
      clear H
      have hnb29 := NBz1_z2.out
      have hnc29 := NBz2_z1.out
      have hcz30_0 : wr.cell? ⟨gbz1, 0, none⟩ = some (.string a0_0) := (blk_cell BKz1.out 0).trans rfl
      have hcz30_1 : wr.cell? ⟨gbz1, 1, none⟩ = some (.int .i64 a0_1) := (blk_cell BKz1.out 1).trans rfl
      have hcz30_2 : wr.cell? ⟨gbz1, 2, none⟩ = some (.slice A0_2 l0_2.length c0_2) := (blk_cell BKz1.out 2).trans rfl
      have hcz30_3 : wr.cell? ⟨gbz1, 3, none⟩ = some (.slice A0_3 l0_3.length c0_3) := (blk_cell BKz1.out 3).trans rfl
      have hcz30_4 : wr.cell? ⟨gbz1, 4, none⟩ = some (.bool a0_4) := (blk_cell BKz1.out 4).trans rfl
      have hfz30_0 := blk_frozen BKz1.out 0
      have hfz30_1 := blk_frozen BKz1.out 1
      have hfz30_2 := blk_frozen BKz1.out 2
      have hfz30_3 := blk_frozen BKz1.out 3
      have hfz30_4 := blk_frozen BKz1.out 4
      have pz3 : 0 ≤ (x5_2 : Int) := of_decide_eq_true (by first | (with_reducible assumption) | assumption)
      have qz3 : x5_2 < (l0_2.length : Int) := of_decide_eq_true (by first | (with_reducible assumption) | assumption)
      obtain ⟨adz3, ez3, hxz3_0, hxz3_1⟩ := at_T72 HR0_2.out x5_2 pz3 qz3
      cases ez3
      replace hxz3_0 := (HB.out.cell (World.block_lt_of_cell? w _ hxz3_0)).trans hxz3_0
      replace hxz3_1 := (HB.out.cell (World.block_lt_of_cell? w _ hxz3_1)).trans hxz3_1
      replace pz3 := eq_true pz3
      replace qz3 := eq_true qz3
      have hcz31_0 : wr.cell? ⟨gbz2, 0, none⟩ = some (.string a1_0) := (blk_cell BKz2.out 0).trans rfl
      have hcz31_1 : wr.cell? ⟨gbz2, 1, none⟩ = some (.int .i64 a1_1) := (blk_cell BKz2.out 1).trans rfl
      have hcz31_2 : wr.cell? ⟨gbz2, 2, none⟩ = some (.slice A1_2 l1_2.length c1_2) := (blk_cell BKz2.out 2).trans rfl
      have hcz31_3 : wr.cell? ⟨gbz2, 3, none⟩ = some (.slice A1_3 l1_3.length c1_3) := (blk_cell BKz2.out 3).trans rfl
      have hcz31_4 : wr.cell? ⟨gbz2, 4, none⟩ = some (.bool a1_4) := (blk_cell BKz2.out 4).trans rfl
      have hfz31_0 := blk_frozen BKz2.out 0
      have hfz31_1 := blk_frozen BKz2.out 1
      have hfz31_2 := blk_frozen BKz2.out 2
      have hfz31_3 := blk_frozen BKz2.out 3
      have hfz31_4 := blk_frozen BKz2.out 4
      have pz4 : 0 ≤ (x5_2 : Int) := of_decide_eq_true (by first | (with_reducible assumption) | assumption)
      have qz4 : x5_2 < (l1_2.length : Int) := of_decide_eq_true (by first | (with_reducible assumption) | assumption)
      obtain ⟨adz4, ez4, hxz4_0, hxz4_1⟩ := at_T72 HR1_2.out x5_2 pz4 qz4
      cases ez4
      replace hxz4_0 := (HB.out.cell (World.block_lt_of_cell? w _ hxz4_0)).trans hxz4_0
      replace hxz4_1 := (HB.out.cell (World.block_lt_of_cell? w _ hxz4_1)).trans hxz4_1
      replace pz4 := eq_true pz4
      replace qz4 := eq_true qz4
      go_wp2
      repeat (go_quiet (fail); try go_wp2)
      go_roundg k2
      case measure => have := HJ2.out; have := HK2.out; omega
      case rel => exact ⟨(wrap64 (x5_2 + 1)), (by first | rfl | (simp; done) | (simp [*]; done)), H', ⟨by have := HJ2.out; have := HK2.out; omega⟩, ⟨by (with_reducible repeat (first | refine blk_drewN ?_ _ | refine blk_drew ?_ | refine blk_alloc ?_ _)); exact BKz1.out⟩, ⟨by (with_reducible repeat (first | refine blk_drewN ?_ _ | refine blk_drew ?_ | refine blk_alloc ?_ _)); exact BKz2.out⟩, ⟨by repeat (first | (with_reducible first | exact HB.out | apply below_alloc | apply pw_below_drewN | apply below_drew1 | refine below_set ?_ GEz1.out | refine below_set ?_ GEz2.out) | exact HB.out)⟩⟩
     rw [if_neg c22] at H
     have c22b0 : decide (x5_2 < (l0_2.length : Int)) = false := decide_eq_false c22
     clear c22
     have H' := am H
     clear H
     have hnb32 := NBz1_z2.out
     have hnc32 := NBz2_z1.out
     have hcz33_0 : wr.cell? ⟨gbz1, 0, none⟩ = some (.string a0_0) := (blk_cell BKz1.out 0).trans rfl
     have hcz33_1 : wr.cell? ⟨gbz1, 1, none⟩ = some (.int .i64 a0_1) := (blk_cell BKz1.out 1).trans rfl
     have hcz33_2 : wr.cell? ⟨gbz1, 2, none⟩ = some (.slice A0_2 l0_2.length c0_2) := (blk_cell BKz1.out 2).trans rfl
     have hcz33_3 : wr.cell? ⟨gbz1, 3, none⟩ = some (.slice A0_3 l0_3.length c0_3) := (blk_cell BKz1.out 3).trans rfl
     have hcz33_4 : wr.cell? ⟨gbz1, 4, none⟩ = some (.bool a0_4) := (blk_cell BKz1.out 4).trans rfl
     have hfz33_0 := blk_frozen BKz1.out 0
     have hfz33_1 := blk_frozen BKz1.out 1
     have hfz33_2 := blk_frozen BKz1.out 2
     have hfz33_3 := blk_frozen BKz1.out 3
     have hfz33_4 := blk_frozen BKz1.out 4
     go_wp2
     repeat (go_quiet (fail); try go_wp2)
     go_loopg [6] k2 (fun kq v6 w' => ∃ (x6_3 : Int), v6 = .int .i64 x6_3 ∧ Aside0 (columbariumref08_Same.l1 kq x6_3 a0_0 a0_1 l0_2 l0_3 a0_4 a1_0 a1_1 l1_2 l1_3 a1_4 = some r) ∧ Aside0 (kq ≤ k2) ∧ Aside0 (w'.heap[gbz1]? = some (.cells #[.string a0_0, .int .i64 a0_1, (.slice A0_2 l0_2.length c0_2), (.slice A0_3 l0_3.length c0_3), .bool a0_4] 50 (0, 0))) ∧ Aside0 (w'.heap[gbz2]? = some (.cells #[.string a1_0, .int .i64 a1_1, (.slice A1_2 l1_2.length c1_2), (.slice A1_3 l1_3.length c1_3), .bool a1_4] 50 (0, 0))) ∧ Aside0 (Below w.heap.size w w'))
     case atStart => exact ⟨(0), (by first | rfl | (simp; done) | (simp [*]; done)), H', ⟨Nat.le_refl _⟩, ⟨by (with_reducible repeat (first | refine blk_drewN ?_ _ | refine blk_drew ?_ | refine blk_alloc ?_ _)); exact BKz1.out⟩, ⟨by (with_reducible repeat (first | refine blk_drewN ?_ _ | refine blk_drew ?_ | refine blk_alloc ?_ _)); exact BKz2.out⟩, ⟨by repeat (first | (with_reducible first | exact HB.out | apply below_alloc | apply pw_below_drewN | apply below_drew1 | refine below_set ?_ GEz1.out | refine below_set ?_ GEz2.out) | exact HB.out)⟩⟩
     case round =>
      clear H'
      try clear c1
      try clear c2
      try clear p2
      try clear c3
      try clear p3
      try clear q3
      try clear hx3
      try clear c6
      try clear c6b0
      try clear c6b1
      try clear p6
      try clear c7
      try clear c10
      try clear c10b0
      try clear c10b1
      try clear c10b2
      try clear c11
      try clear c14
      try clear c14b0
      try clear c14b1
      try clear c14b2
      try clear c15
      try clear c18
      try clear c21
      try clear c22
      try clear c22b0
      try clear c23
      try clear c23b0
      try clear c24
      try clear c24b0
      try clear c25
      try clear c25b0
      try clear c26
      try clear c29
      try clear c32
      try clear p32
      try clear q32
      try clear hx32
      try clear hcz12_0
      try clear hcz12_1
      try clear hcz12_2
      try clear hcz12_3
      try clear hcz12_4
      try clear hcz13_0
      try clear hcz13_1
      try clear hcz13_2
      try clear hcz13_3
      try clear hcz13_4
      try clear hcz16_0
      try clear hcz16_1
      try clear hcz16_2
      try clear hcz16_3
      try clear hcz16_4
      try clear hcz17_0
      try clear hcz17_1
      try clear hcz17_2
      try clear hcz17_3
      try clear hcz17_4
      try clear hcz19_0
      try clear hcz19_1
      try clear hcz19_2
      try clear hcz19_3
      try clear hcz19_4
      try clear hcz20_0
      try clear hcz20_1
      try clear hcz20_2
      try clear hcz20_3
      try clear hcz20_4
      try clear hcz27_0
      try clear hcz27_1
      try clear hcz27_2
      try clear hcz27_3
      try clear hcz27_4
      try clear hcz28_0
      try clear hcz28_1
      try clear hcz28_2
      try clear hcz28_3
      try clear hcz28_4
      try clear hcz30_0
      try clear hcz30_1
      try clear hcz30_2
      try clear hcz30_3
      try clear hcz30_4
      try clear hcz31_0
      try clear hcz31_1
      try clear hcz31_2
      try clear hcz31_3
      try clear hcz31_4
      try clear hcz33_0
      try clear hcz33_1
      try clear hcz33_2
      try clear hcz33_3
      try clear hcz33_4
      try clear hcz8_0
      try clear hcz8_1
      try clear hcz8_2
      try clear hcz8_3
      try clear hcz8_4
      try clear hcz9_0
      try clear hcz9_1
      try clear hcz9_2
      try clear hcz9_3
      try clear hcz9_4
      try clear hfz12_0
      try clear hfz12_1
      try clear hfz12_2
      try clear hfz12_3
      try clear hfz12_4
      try clear hfz13_0
      try clear hfz13_1
      try clear hfz13_2
      try clear hfz13_3
      try clear hfz13_4
      try clear hfz16_0
      try clear hfz16_1
      try clear hfz16_2
      try clear hfz16_3
      try clear hfz16_4
      try clear hfz17_0
      try clear hfz17_1
      try clear hfz17_2
      try clear hfz17_3
      try clear hfz17_4
      try clear hfz19_0
      try clear hfz19_1
      try clear hfz19_2
      try clear hfz19_3
      try clear hfz19_4
      try clear hfz20_0
      try clear hfz20_1
      try clear hfz20_2
      try clear hfz20_3
      try clear hfz20_4
      try clear hfz27_0
      try clear hfz27_1
      try clear hfz27_2
      try clear hfz27_3
      try clear hfz27_4
      try clear hfz28_0
      try clear hfz28_1
      try clear hfz28_2
      try clear hfz28_3
      try clear hfz28_4
      try clear hfz30_0
      try clear hfz30_1
      try clear hfz30_2
      try clear hfz30_3
      try clear hfz30_4
      try clear hfz31_0
      try clear hfz31_1
      try clear hfz31_2
      try clear hfz31_3
      try clear hfz31_4
      try clear hfz33_0
      try clear hfz33_1
      try clear hfz33_2
      try clear hfz33_3
      try clear hfz33_4
      try clear hfz8_0
      try clear hfz8_1
      try clear hfz8_2
      try clear hfz8_3
      try clear hfz8_4
      try clear hfz9_0
      try clear hfz9_1
      try clear hfz9_2
      try clear hfz9_3
      try clear hfz9_4
      try clear hxz3_0
      try clear hxz3_1
      try clear hxz4_0
      try clear hxz4_1
      try clear p2
      try clear pz3
      try clear pz4
      try clear qz3
      try clear qz4
      obtain ⟨x6_3, rfl, HA, HK3, BKz1, BKz2, HB⟩ := hrel
      cases gk with
      | zero => exact absurd HA.out (by simp [columbariumref08_Same.l1])
      | succ k3 =>
       have H := HA.out
       clear HA
       simp only [columbariumref08_Same.l1] at H
       by_cases c34 : x6_3 < (l0_3.length : Int)
       rotate_left
       ·rw [if_neg c34] at H
        have c34b0 : decide (x6_3 < (l0_3.length : Int)) = false := decide_eq_false c34
        clear c34
        obtain rfl := Option.some.inj H
        have hnb44 := NBz1_z2.out
        have hnc44 := NBz2_z1.out
        have hcz45_0 : wr.cell? ⟨gbz1, 0, none⟩ = some (.string a0_0) := (blk_cell BKz1.out 0).trans rfl
        have hcz45_1 : wr.cell? ⟨gbz1, 1, none⟩ = some (.int .i64 a0_1) := (blk_cell BKz1.out 1).trans rfl
        have hcz45_2 : wr.cell? ⟨gbz1, 2, none⟩ = some (.slice A0_2 l0_2.length c0_2) := (blk_cell BKz1.out 2).trans rfl
        have hcz45_3 : wr.cell? ⟨gbz1, 3, none⟩ = some (.slice A0_3 l0_3.length c0_3) := (blk_cell BKz1.out 3).trans rfl
        have hcz45_4 : wr.cell? ⟨gbz1, 4, none⟩ = some (.bool a0_4) := (blk_cell BKz1.out 4).trans rfl
        have hfz45_0 := blk_frozen BKz1.out 0
        have hfz45_1 := blk_frozen BKz1.out 1
        have hfz45_2 := blk_frozen BKz1.out 2
        have hfz45_3 := blk_frozen BKz1.out 3
        have hfz45_4 := blk_frozen BKz1.out 4
        go_wp2
        repeat (go_quiet (fail); try go_wp2)
        go_ret
        exact ⟨by first | rfl | (simp [errW_none, errW_some] <;> rfl) | (simp [*, errW_none, errW_some] <;> rfl), by repeat (first | (with_reducible first | exact HB.out | apply below_alloc | apply pw_below_drewN | apply below_drew1 | refine below_set ?_ GEz1.out | refine below_set ?_ GEz2.out) | exact HB.out)⟩
       rw [if_pos c34] at H
       have c34b0 : decide (x6_3 < (l0_3.length : Int)) = true := decide_eq_true c34
       clear c34
       by_cases c35 : 0 ≤ x6_3
       rotate_left
       ·rw [if_neg c35] at H
        exact absurd H (by simp)
       rw [if_pos c35] at H
       have c35b0 : decide (0 ≤ x6_3) = true := decide_eq_true c35
       clear c35
       by_cases c36 : x6_3 < (l1_3.length : Int)
       rotate_left
       ·rw [if_neg c36] at H
        exact absurd H (by simp)
       rw [if_pos c36] at H
       have c36b0 : decide (x6_3 < (l1_3.length : Int)) = true := decide_eq_true c36
       clear c36
       by_cases c37 : (!((((rd_T74 l0_3 x6_3).f0).toList) == (((rd_T74 l1_3 x6_3).f0).toList)) || (!((((rd_T74 l0_3 x6_3).f1).toList) == (((rd_T74 l1_3 x6_3).f1).toList)) || (!((((rd_T74 l0_3 x6_3).f2).toList) == (((rd_T74 l1_3 x6_3).f2).toList))))) = true
       ·rw [if_pos c37] at H
        have c37b0 : (!((((rd_T74 l0_3 x6_3).f0).toList) == (((rd_T74 l1_3 x6_3).f0).toList)) || (!((((rd_T74 l0_3 x6_3).f1).toList) == (((rd_T74 l1_3 x6_3).f1).toList)) || (!((((rd_T74 l0_3 x6_3).f2).toList) == (((rd_T74 l1_3 x6_3).f2).toList))))) = true := c37
        clear c37
        obtain rfl := Option.some.inj H
        have hnb38 := NBz1_z2.out
        have hnc38 := NBz2_z1.out
        have hcz39_0 : wr.cell? ⟨gbz1, 0, none⟩ = some (.string a0_0) := (blk_cell BKz1.out 0).trans rfl
        have hcz39_1 : wr.cell? ⟨gbz1, 1, none⟩ = some (.int .i64 a0_1) := (blk_cell BKz1.out 1).trans rfl
        have hcz39_2 : wr.cell? ⟨gbz1, 2, none⟩ = some (.slice A0_2 l0_2.length c0_2) := (blk_cell BKz1.out 2).trans rfl
        have hcz39_3 : wr.cell? ⟨gbz1, 3, none⟩ = some (.slice A0_3 l0_3.length c0_3) := (blk_cell BKz1.out 3).trans rfl
        have hcz39_4 : wr.cell? ⟨gbz1, 4, none⟩ = some (.bool a0_4) := (blk_cell BKz1.out 4).trans rfl
        have hfz39_0 := blk_frozen BKz1.out 0
        have hfz39_1 := blk_frozen BKz1.out 1
        have hfz39_2 := blk_frozen BKz1.out 2
        have hfz39_3 := blk_frozen BKz1.out 3
        have hfz39_4 := blk_frozen BKz1.out 4
        have pz5 : 0 ≤ (x6_3 : Int) := of_decide_eq_true (by first | (with_reducible assumption) | assumption)
        have qz5 : x6_3 < (l0_3.length : Int) := of_decide_eq_true (by first | (with_reducible assumption) | assumption)
        obtain ⟨adz5, ez5, hxz5_0, hxz5_1, hxz5_2⟩ := at_T74 HR0_3.out x6_3 pz5 qz5
        cases ez5
        replace hxz5_0 := (HB.out.cell (World.block_lt_of_cell? w _ hxz5_0)).trans hxz5_0
        replace hxz5_1 := (HB.out.cell (World.block_lt_of_cell? w _ hxz5_1)).trans hxz5_1
        replace hxz5_2 := (HB.out.cell (World.block_lt_of_cell? w _ hxz5_2)).trans hxz5_2
        replace pz5 := eq_true pz5
        replace qz5 := eq_true qz5
        have hcz40_0 : wr.cell? ⟨gbz2, 0, none⟩ = some (.string a1_0) := (blk_cell BKz2.out 0).trans rfl
        have hcz40_1 : wr.cell? ⟨gbz2, 1, none⟩ = some (.int .i64 a1_1) := (blk_cell BKz2.out 1).trans rfl
        have hcz40_2 : wr.cell? ⟨gbz2, 2, none⟩ = some (.slice A1_2 l1_2.length c1_2) := (blk_cell BKz2.out 2).trans rfl
        have hcz40_3 : wr.cell? ⟨gbz2, 3, none⟩ = some (.slice A1_3 l1_3.length c1_3) := (blk_cell BKz2.out 3).trans rfl
        have hcz40_4 : wr.cell? ⟨gbz2, 4, none⟩ = some (.bool a1_4) := (blk_cell BKz2.out 4).trans rfl
        have hfz40_0 := blk_frozen BKz2.out 0
        have hfz40_1 := blk_frozen BKz2.out 1
        have hfz40_2 := blk_frozen BKz2.out 2
        have hfz40_3 := blk_frozen BKz2.out 3
        have hfz40_4 := blk_frozen BKz2.out 4
        have pz6 : 0 ≤ (x6_3 : Int) := of_decide_eq_true (by first | (with_reducible assumption) | assumption)
        have qz6 : x6_3 < (l1_3.length : Int) := of_decide_eq_true (by first | (with_reducible assumption) | assumption)
        obtain ⟨adz6, ez6, hxz6_0, hxz6_1, hxz6_2⟩ := at_T74 HR1_3.out x6_3 pz6 qz6
        cases ez6
        replace hxz6_0 := (HB.out.cell (World.block_lt_of_cell? w _ hxz6_0)).trans hxz6_0
        replace hxz6_1 := (HB.out.cell (World.block_lt_of_cell? w _ hxz6_1)).trans hxz6_1
        replace hxz6_2 := (HB.out.cell (World.block_lt_of_cell? w _ hxz6_2)).trans hxz6_2
        replace pz6 := eq_true pz6
        replace qz6 := eq_true qz6
        go_wp2
        repeat (go_quiet (fail); try go_wp2)
        go_ret
        exact ⟨by first | rfl | (simp [errW_none, errW_some] <;> rfl) | (simp [*, errW_none, errW_some] <;> rfl), by repeat (first | (with_reducible first | exact HB.out | apply below_alloc | apply pw_below_drewN | apply below_drew1 | refine below_set ?_ GEz1.out | refine below_set ?_ GEz2.out) | exact HB.out)⟩
       rw [if_neg c37] at H
       have c37b0 : (!((((rd_T74 l0_3 x6_3).f0).toList) == (((rd_T74 l1_3 x6_3).f0).toList)) || (!((((rd_T74 l0_3 x6_3).f1).toList) == (((rd_T74 l1_3 x6_3).f1).toList)) || (!((((rd_T74 l0_3 x6_3).f2).toList) == (((rd_T74 l1_3 x6_3).f2).toList))))) = false := by simpa using c37
       clear c37
       have H' := am H
       clear H
       have hnb41 := NBz1_z2.out
       have hnc41 := NBz2_z1.out
       have hcz42_0 : wr.cell? ⟨gbz1, 0, none⟩ = some (.string a0_0) := (blk_cell BKz1.out 0).trans rfl
       have hcz42_1 : wr.cell? ⟨gbz1, 1, none⟩ = some (.int .i64 a0_1) := (blk_cell BKz1.out 1).trans rfl
       have hcz42_2 : wr.cell? ⟨gbz1, 2, none⟩ = some (.slice A0_2 l0_2.length c0_2) := (blk_cell BKz1.out 2).trans rfl
       have hcz42_3 : wr.cell? ⟨gbz1, 3, none⟩ = some (.slice A0_3 l0_3.length c0_3) := (blk_cell BKz1.out 3).trans rfl
       have hcz42_4 : wr.cell? ⟨gbz1, 4, none⟩ = some (.bool a0_4) := (blk_cell BKz1.out 4).trans rfl
       have hfz42_0 := blk_frozen BKz1.out 0
       have hfz42_1 := blk_frozen BKz1.out 1
       have hfz42_2 := blk_frozen BKz1.out 2
       have hfz42_3 := blk_frozen BKz1.out 3
       have hfz42_4 := blk_frozen BKz1.out 4
       have pz5 : 0 ≤ (x6_3 : Int) := of_decide_eq_true (by first | (with_reducible assumption) | assumption)
       have qz5 : x6_3 < (l0_3.length : Int) := of_decide_eq_true (by first | (with_reducible assumption) | assumption)
       obtain ⟨adz5, ez5, hxz5_0, hxz5_1, hxz5_2⟩ := at_T74 HR0_3.out x6_3 pz5 qz5
       cases ez5
       replace hxz5_0 := (HB.out.cell (World.block_lt_of_cell? w _ hxz5_0)).trans hxz5_0
       replace hxz5_1 := (HB.out.cell (World.block_lt_of_cell? w _ hxz5_1)).trans hxz5_1
       replace hxz5_2 := (HB.out.cell (World.block_lt_of_cell? w _ hxz5_2)).trans hxz5_2
       replace pz5 := eq_true pz5
       replace qz5 := eq_true qz5
       have hcz43_0 : wr.cell? ⟨gbz2, 0, none⟩ = some (.string a1_0) := (blk_cell BKz2.out 0).trans rfl
       have hcz43_1 : wr.cell? ⟨gbz2, 1, none⟩ = some (.int .i64 a1_1) := (blk_cell BKz2.out 1).trans rfl
       have hcz43_2 : wr.cell? ⟨gbz2, 2, none⟩ = some (.slice A1_2 l1_2.length c1_2) := (blk_cell BKz2.out 2).trans rfl
       have hcz43_3 : wr.cell? ⟨gbz2, 3, none⟩ = some (.slice A1_3 l1_3.length c1_3) := (blk_cell BKz2.out 3).trans rfl
       have hcz43_4 : wr.cell? ⟨gbz2, 4, none⟩ = some (.bool a1_4) := (blk_cell BKz2.out 4).trans rfl
       have hfz43_0 := blk_frozen BKz2.out 0
       have hfz43_1 := blk_frozen BKz2.out 1
       have hfz43_2 := blk_frozen BKz2.out 2
       have hfz43_3 := blk_frozen BKz2.out 3
       have hfz43_4 := blk_frozen BKz2.out 4
       have pz6 : 0 ≤ (x6_3 : Int) := of_decide_eq_true (by first | (with_reducible assumption) | assumption)
       have qz6 : x6_3 < (l1_3.length : Int) := of_decide_eq_true (by first | (with_reducible assumption) | assumption)
       obtain ⟨adz6, ez6, hxz6_0, hxz6_1, hxz6_2⟩ := at_T74 HR1_3.out x6_3 pz6 qz6
       cases ez6
       replace hxz6_0 := (HB.out.cell (World.block_lt_of_cell? w _ hxz6_0)).trans hxz6_0
       replace hxz6_1 := (HB.out.cell (World.block_lt_of_cell? w _ hxz6_1)).trans hxz6_1
       replace hxz6_2 := (HB.out.cell (World.block_lt_of_cell? w _ hxz6_2)).trans hxz6_2
       replace pz6 := eq_true pz6
       replace qz6 := eq_true qz6
       go_wp2
       repeat (go_quiet (fail); try go_wp2)
       go_roundg k3
       case measure => have := HJ2.out; have := HK2.out; have := HK3.out; omega
       case rel => exact ⟨(wrap64 (x6_3 + 1)), (by first | rfl | (simp; done) | (simp [*]; done)), H', ⟨by have := HJ2.out; have := HK2.out; have := HK3.out; omega⟩, ⟨by (with_reducible repeat (first | refine blk_drewN ?_ _ | refine blk_drew ?_ | refine blk_alloc ?_ _)); exact BKz1.out⟩, ⟨by (with_reducible repeat (first | refine blk_drewN ?_ _ | refine blk_drew ?_ | refine blk_alloc ?_ _)); exact BKz2.out⟩, ⟨by repeat (first | (with_reducible first | exact HB.out | apply below_alloc | apply pw_below_drewN | apply below_drew1 | refine below_set ?_ GEz1.out | refine below_set ?_ GEz2.out) | exact HB.out)⟩⟩
end Go.Proofs.Ytmkncddbecmlpaa.Pr
end
section
namespace Go.Proofs.Ytmkncddbecmlpaa.Pr
open Go.RowKit Go.Proofs.YtmkncddbecmlpaaW.PrintWords Go.Proofs.YtmkncddbecmlpaaW.PrintLast Go.Proofs.YtmkncddbecmlpaaW.PrintMore
set_option linter.unusedVariables false
def api_Name_69.f (l0 : List S72) : Option (List S72) := if l0.length < 4398046511104 then some l0 else none
set_option maxHeartbeats 8000000 in
set_option maxRecDepth 100000 in
theorem api_Name_69.calls (A0 : Option Addr) (c0 : Nat) (l0 : List S72) (r : List S72) (w : World) (hr0 : Kd.C k72 w A0 l0.length l0) (hc0 : l0.length ≤ c0) (h : api_Name_69.f l0 = some r) :
    Calls Try.prog 69 #[.slice A0 l0.length c0] w fun e w' => ∃ v0_ : Value, e = .returned (v0_) ∧ Kd.R k72 72 w' w.heap.size (fun _ => True) v0_ r ∧ Below w.heap.size w w' := by
  have q24 : ∀ (w : World) (a : Option Addr) (n c : Nat), (binOp .eql 47 (.slice a n c) (.slice none 0 0)).run Try.prog w = .ok (.bool a.isNone) w := fun w a n c => Lib.run_eql_slice_nil w _ _ a n c 0 0 Try.underlying47
  unfold api_Name_69.f at h
  by_cases hl : l0.length < 4398046511104
  · rw [if_pos hl] at h
    obtain rfl := Option.some.inj h
    have HR0 := Aside0.mk hr0
    have LM := Aside0.mk hl
    clear h hl hr0 hc0
    cases A0 with
    | none =>
      have h0 : l0 = [] := by
        cases l0 with
        | nil => rfl
        | cons x xs =>
          obtain ⟨ad, e, _⟩ := HR0.out.2.2 (by simp)
          cases e
      clear HR0
      subst h0
      go_enter Try.func69, Try.ntmps69
      go_wp2
      go_ret
      exact ⟨_, rfl, Kd.R_nil _ _ _ _ _, Below.refl _ _⟩
    | some ad =>
      have HB := Aside0.mk (Below.refl w.heap.size w)
      go_enter Try.func69, Try.ntmps69
      go_wp2_with (first | ((with_reducible refine gate_dst (N := 5) rfl ?_); refine Kd.R_lit k72 _ 72 ?hg (N := 5) ?hd (xs := ([] : List S72)) (inner := []) (ok := fun _ => True) (okp := fun _ => True) ?hr ?hp (fun _ hk => hk) trivial (Below.refl _ _) (Nat.le_refl _) (by simp) ?_; (case hd => rfl); (case hg => rfl); (case hr => first | (go_simp; done) | (go_simp; rfl)); (case hp => exact Reps.none _ _); intro v126 w34 ho35 hb hg_ hnew_; clear hg_ hnew_; have n1_ := Aside0.mk (Kd.C_below HR0.out hb); have n0_ := Aside0.mk hb; have n2_ := Aside0.mk ho35; clear HB HR0; have HB := n0_; have HR0 := n1_; have HO := n2_; clear n0_ n1_ n2_ hb ho35) | ((with_reducible refine gate_builtin (b := .append) (xs := #[.tmp 5, .tmp 6]) rfl ?_); at_builtin; refine Kd.R_append_rows k72 (w0 := w) w.heap.size rfl (.tmp 5) (.tmp 6) 47 72 (.agg #[(.string ⟨#[]⟩), (.string ⟨#[]⟩)]) 32 rfl Try.underlying47 info72 rfl (by decide) (by omega) v126 ([] : List S72) l0 _ _ _ (fun _ => True) (fun _ => False) rfl rfl ?aO ?aR (fun _ _ h => h) (fun _ h => h.elim) ?aF ?aB ?aS ?aL ?_; (case aO => exact HO.out); (case aR => exact HR0.out); (case aF => exact fun _ _ => trivial); (case aB => exact HB.out); (case aS => exact HB.out.size); (case aL => have := LM.out; simp only [List.length_nil]; omega); intro v7 w7 ho7 hb7 hg7 hn7; clear hg7 hn7; rw [List.nil_append] at ho7; have HO2 := Aside0.mk ho7; have HB2 := Aside0.mk hb7; clear ho7 hb7))
      go_ret
      exact ⟨_, rfl, HO2.out, HB2.out⟩
  · rw [if_neg hl] at h
    cases h
def api_Made_70.f (l0 : List S74) : Option (List S74) := if l0.length < 2932031007402 then some l0 else none
set_option maxHeartbeats 8000000 in
set_option maxRecDepth 100000 in
theorem api_Made_70.calls (A0 : Option Addr) (c0 : Nat) (l0 : List S74) (r : List S74) (w : World) (hr0 : Kd.C k74 w A0 l0.length l0) (hc0 : l0.length ≤ c0) (h : api_Made_70.f l0 = some r) :
    Calls Try.prog 70 #[.slice A0 l0.length c0] w fun e w' => ∃ v0_ : Value, e = .returned (v0_) ∧ Kd.R k74 74 w' w.heap.size (fun _ => True) v0_ r ∧ Below w.heap.size w w' := by
  have q24 : ∀ (w : World) (a : Option Addr) (n c : Nat), (binOp .eql 48 (.slice a n c) (.slice none 0 0)).run Try.prog w = .ok (.bool a.isNone) w := fun w a n c => Lib.run_eql_slice_nil w _ _ a n c 0 0 Try.underlying48
  unfold api_Made_70.f at h
  by_cases hl : l0.length < 2932031007402
  · rw [if_pos hl] at h
    obtain rfl := Option.some.inj h
    have HR0 := Aside0.mk hr0
    have LM := Aside0.mk hl
    clear h hl hr0 hc0
    cases A0 with
    | none =>
      have h0 : l0 = [] := by
        cases l0 with
        | nil => rfl
        | cons x xs =>
          obtain ⟨ad, e, _⟩ := HR0.out.2.2 (by simp)
          cases e
      clear HR0
      subst h0
      go_enter Try.func70, Try.ntmps70
      go_wp2
      go_ret
      exact ⟨_, rfl, Kd.R_nil _ _ _ _ _, Below.refl _ _⟩
    | some ad =>
      have HB := Aside0.mk (Below.refl w.heap.size w)
      go_enter Try.func70, Try.ntmps70
      go_wp2_with (first | ((with_reducible refine gate_dst (N := 5) rfl ?_); refine Kd.R_lit k74 _ 74 ?hg (N := 5) ?hd (xs := ([] : List S74)) (inner := []) (ok := fun _ => True) (okp := fun _ => True) ?hr ?hp (fun _ hk => hk) trivial (Below.refl _ _) (Nat.le_refl _) (by simp) ?_; (case hd => rfl); (case hg => rfl); (case hr => first | (go_simp; done) | (go_simp; rfl)); (case hp => exact Reps.none _ _); intro v126 w34 ho35 hb hg_ hnew_; clear hg_ hnew_; have n1_ := Aside0.mk (Kd.C_below HR0.out hb); have n0_ := Aside0.mk hb; have n2_ := Aside0.mk ho35; clear HB HR0; have HB := n0_; have HR0 := n1_; have HO := n2_; clear n0_ n1_ n2_ hb ho35) | ((with_reducible refine gate_builtin (b := .append) (xs := #[.tmp 5, .tmp 6]) rfl ?_); at_builtin; refine Kd.R_append_rows k74 (w0 := w) w.heap.size rfl (.tmp 5) (.tmp 6) 48 74 (.agg #[(.string ⟨#[]⟩), (.string ⟨#[]⟩), (.string ⟨#[]⟩)]) 48 rfl Try.underlying48 info74 rfl (by decide) (by omega) v126 ([] : List S74) l0 _ _ _ (fun _ => True) (fun _ => False) rfl rfl ?aO ?aR (fun _ _ h => h) (fun _ h => h.elim) ?aF ?aB ?aS ?aL ?_; (case aO => exact HO.out); (case aR => exact HR0.out); (case aF => exact fun _ _ => trivial); (case aB => exact HB.out); (case aS => exact HB.out.size); (case aL => have := LM.out; simp only [List.length_nil]; omega); intro v7 w7 ho7 hb7 hg7 hn7; clear hg7 hn7; rw [List.nil_append] at ho7; have HO2 := Aside0.mk ho7; have HB2 := Aside0.mk hb7; clear ho7 hb7))
      go_ret
      exact ⟨_, rfl, HO2.out, HB2.out⟩
  · rw [if_neg hl] at h
    cases h
end Go.Proofs.Ytmkncddbecmlpaa.Pr
end
section
namespace Go.Proofs.Ytmkncddbecmlpaa.Pr
open Go.Proofs.Ytmkncddbecmlpaa.Sq Go.RowKit Go.Proofs.YtmkncddbecmlpaaW.PrintWords Go.Proofs.YtmkncddbecmlpaaW.PrintLast Go.Proofs.YtmkncddbecmlpaaW.PrintMore
attribute [local go_sem] max2_int min2_int max_two min_two max_three min_three max_four min_four
set_option linter.unusedVariables false
set_option linter.unusedSimpArgs false
def ideal_own.f (a0_0 : ByteArray) (a0_1 : Int) (l0_2 : List (S72)) (l0_3 : List (S74)) (a0_4 : Bool) : Option (ByteArray × Int × (List (S72)) × (List (S74)) × Bool) := (api_Name_69.f l0_2).bind fun tz3 => ((api_Made_70.f l0_3).bind fun tz6 => (some (a0_0, a0_1, tz3, tz6, a0_4)))
def ideal_own.T1 : Bool × List (List Nat × List Nat) := (true, [([], []), ([0], [0]), ([1], [1]), ([], []), ([3], [3]), ([4, 2], [4]), ([0, 1, 2, 3, 4], []), ([6, 2, 5, 0, 1, 2, 3, 4], [2, 6]), ([0, 1, 2, 3, 4, 5, 6, 7], []), ([8, 5, 7, 0, 1, 2, 3, 4, 5, 6, 7], [5, 8])])
def ideal_own.B1 : List Nat := [0, 1, 3, 0, 8, 31, 31, 127, 255, 511]
theorem ideal_own.tab1 : rtab .any (opsOf Try.f49 1) = ideal_own.T1 := by kernel_rfl
theorem ideal_own.bits1 : waitsOk ideal_own.T1.2 ideal_own.B1 = true := by kernel_rfl
set_option maxHeartbeats 8000000 in
set_option maxRecDepth 100000 in
theorem ideal_own.calls (a0_0 : ByteArray) (a0_1 : Int) (A0_2 : Option Addr) (c0_2 : Nat) (l0_2 : List (S72)) (A0_3 : Option Addr) (c0_3 : Nat) (l0_3 : List (S74)) (a0_4 : Bool) (r1 : ByteArray) (r2 : Int) (r3 : List (S72)) (r4 : List (S74)) (r5 : Bool) (w : World) (hr0_2 : Kd.C k72 w A0_2 l0_2.length l0_2) (hc0_2 : l0_2.length ≤ c0_2) (hr0_3 : Kd.C k74 w A0_3 l0_3.length l0_3) (hc0_3 : l0_3.length ≤ c0_3) (h : ideal_own.f a0_0 a0_1 l0_2 l0_3 a0_4 = some (r1, r2, r3, r4, r5)) :
  Calls Try.prog 49 #[.agg #[.string a0_0, .int .i64 a0_1, .slice A0_2 l0_2.length c0_2, .slice A0_3 l0_3.length c0_3, .bool a0_4]] w fun e w' => ∃ v2_ v3_ : Value, e = .returned (.agg #[.string r1, .int .i64 r2, v2_, v3_, .bool r5]) ∧ Kd.R k72 72 w' w.heap.size (fun _ => True) v2_ r3 ∧ Kd.R k74 74 w' w.heap.size (fun _ => True) v3_ r4 ∧ Below w.heap.size w w' := by
 have hu50 := Try.underlying50
 have HR0_2 := am hr0_2
 have HC0_2 := am hc0_2
 clear hr0_2 hc0_2
 have HR0_3 := am hr0_3
 have HC0_3 := am hc0_3
 clear hr0_3 hc0_3
 have HB := am (Below.refl w.heap.size w)
 have H : ((api_Name_69.f l0_2).bind fun tz3 => ((api_Made_70.f l0_3).bind fun tz6 => (some (a0_0, a0_1, tz3, tz6, a0_4)))) = some (r1, r2, r3, r4, r5) := h
 clear h
 replace H := Option.bind_eq_some_iff.mp H
 obtain ⟨tz3, A20, H⟩ := H
 replace H : ((api_Made_70.f l0_3).bind fun tz6 => (some (a0_0, a0_1, tz3, tz6, a0_4))) = some (r1, r2, r3, r4, r5) := H
 have A2 := Aside0.mk A20
 clear A20
 replace H := Option.bind_eq_some_iff.mp H
 obtain ⟨tz6, A30, H⟩ := H
 replace H : (some (a0_0, a0_1, tz3, tz6, a0_4)) = some (r1, r2, r3, r4, r5) := H
 have A3 := Aside0.mk A30
 clear A30
 simp only [Option.some.injEq, Prod.mk.injEq] at H
 obtain ⟨rfl, rfl, rfl, rfl, rfl⟩ := H
 go_enter Try.func49, Try.ntmps49
 try go_wp2_with (first | ((with_reducible refine gate_dst (N := 1) rfl ?_); refine box_event ?hg (N := 1) ?hd (cs := #[.string a0_0, .int .i64 a0_1, .slice A0_2 l0_2.length c0_2, .slice A0_3 l0_3.length c0_3, .bool a0_4]) (t := 50) ?hr ?_; (case hd => rfl); (case hg => rfl); (case hr => first | (go_simp; done) | (go_simp; rfl)); intro gbz1 hg w4 hbox hb; have n0_ := am (below_step (pb HB) hb); have n1_ := am (hbox); have n2_ := am ((by rw [hg]; exact (below_size (pb HB)) : w.heap.size ≤ gbz1)); have n3_ := am ((by rw [hg]; exact (below_size (pb HB)) : w.heap.size ≤ gbz1)); clear HB; have HB := n0_; have BKz1 := n1_; have GWz1 := n2_; have GEz1 := n3_; clear n0_ n1_ n2_ n3_; clear hb hbox hg) | ((with_reducible refine gate_dst (N := 2) rfl ?_); refine box_event ?hg (N := 2) ?hd (cs := #[.string (⟨#[]⟩ : ByteArray), .int .i64 0, .slice none 0 0, .slice none 0 0, .bool false]) (t := 50) ?hr ?_; (case hd => rfl); (case hg => rfl); (case hr => first | (go_simp; done) | (go_simp; rfl)); intro gbz2 hg w5 hbox hb; have n0_ := am (blk_below (pk BKz1) hb); have n1_ := am (below_step (by repeat (first | (with_reducible first | exact HB.out | apply below_alloc | apply pw_below_drewN | apply below_drew1 | refine below_set ?_ GEz1.out) | exact HB.out)) hb); have n2_ := am (hbox); have n3_ := am ((by rw [hg]; exact (below_size (by repeat (first | (with_reducible first | exact HB.out | apply below_alloc | apply pw_below_drewN | apply below_drew1 | refine below_set ?_ GEz1.out) | exact HB.out))) : w.heap.size ≤ gbz2)); have n4_ := am ((by rw [hg]; exact (below_size (by repeat (first | (with_reducible first | exact HB.out | apply below_alloc | apply pw_below_drewN | apply below_drew1 | refine below_set ?_ GEz1.out) | exact HB.out))) : w.heap.size ≤ gbz2)); have n5_ := am ((by rw [hg]; exact Nat.ne_of_lt (blk_lt (g := gbz1) (o := .cells #[.string a0_0, .int .i64 a0_1, .slice A0_2 l0_2.length c0_2, .slice A0_3 l0_3.length c0_3, .bool a0_4] 50 (0, 0)) (pk BKz1)) : gbz1 ≠ gbz2)); have n6_ := am ((by rw [hg]; exact Nat.ne_of_gt (blk_lt (g := gbz1) (o := .cells #[.string a0_0, .int .i64 a0_1, .slice A0_2 l0_2.length c0_2, .slice A0_3 l0_3.length c0_3, .bool a0_4] 50 (0, 0)) (pk BKz1)) : gbz2 ≠ gbz1)); clear BKz1; clear HB; have BKz1 := n0_; have HB := n1_; have BKz2 := n2_; have GWz2 := n3_; have GEz2 := n4_; have NBz1_z2 := n5_; have NBz2_z1 := n6_; clear n0_ n1_ n2_ n3_ n4_ n5_ n6_; clear hb hbox hg))
 have n0_ := am (blk_drew BKz1.out)
 have n1_ := am (blk_drew BKz2.out)
 have n2_ := am (below_drew1 HB.out)
 clear BKz1 BKz2 HB; have BKz1 := n0_; have BKz2 := n1_; have HB := n2_; clear n0_ n1_ n2_
 refine start_ (n := 10) (S := fun w' => w'.cell? ⟨gbz1, 0, none⟩ = some (.string a0_0) ∧ w'.cell? ⟨gbz1, 1, none⟩ = some (.int .i64 a0_1) ∧ w'.cell? ⟨gbz1, 2, none⟩ = some (.slice A0_2 l0_2.length c0_2) ∧ w'.cell? ⟨gbz1, 3, none⟩ = some (.slice A0_3 l0_3.length c0_3) ∧ w'.cell? ⟨gbz1, 4, none⟩ = some (.bool a0_4)) (ds := [7, 9]) #[false, false, false, false, false, false, false, false, false, false] (by kernel_rfl) rfl rfl (bc5 BKz1) (fun hHeld => ?_); refine with_tabW ideal_own.tab1 ideal_own.bits1 (fun HT_ HW_ => ?_)
 generalize w5.drew = w6 at BKz1 BKz2 HB hHeld ⊢
 refine pu_ 0 (some 3) HT_ rfl rfl (by kernel_rfl) (fun _ _ _ h => h) (.inl ⟨by rfl, by intro w'; go_simp; with_reducible rfl⟩) (by simp only [Act.put, sa_, s0_, s1_, i64_w, i32_w]; rfl) ?_
 refine pu_ 3 (some 6) HT_ rfl rfl (by kernel_rfl) (fun _ _ _ h => h) (.inl ⟨by rfl, by intro w'; go_simp; with_reducible rfl⟩) (by simp only [Act.put, sa_, s0_, s1_, i64_w, i32_w]; rfl) ?_
 refine tk_ 1 (some 4) HT_ HW_ rfl rfl (by kernel_rfl) (fun _ _ _ h => h) (.inl ⟨by rfl, by rintro w' ⟨s0, s1, s2, s3, s4⟩; go_simp; with_reducible rfl⟩) hHeld (by simp only [Act.put, sa_, s0_, s1_, i64_w, i32_w]; rfl) ?_
 refine tk_ 4 (some 7) HT_ HW_ rfl rfl (by kernel_rfl) (fun _ _ _ h => h) (.inl ⟨by rfl, by rintro w' ⟨s0, s1, s2, s3, s4⟩; go_simp; with_reducible rfl⟩) hHeld (by simp only [Act.put, sa_, s0_, s1_, i64_w, i32_w]; rfl) ?_
 refine on_ 2 (some 5) HT_ rfl rfl (by kernel_rfl) (by decide) (fun K hK => ?_)
 refine goes_ Try.func69 (by kernel_rfl) rfl #[.slice A0_2 l0_2.length c0_2] (by rfl) rfl rfl (by (try simp only [List.map_toArray, List.map_cons, List.map_nil]); first | done | rfl | (simp only [List.length_drop, List.length_take]; rfl)) ?_
 with_reducible refine (api_Name_69.calls _ _ l0_2 tz3 _ ?side1 ?side2 A2.out).mono ?_
 (case side1 => repeat (first | exact (Kd.C_below HR0_2.out HB.out) | (with_reducible refine Kd.C_alloc ?_ _) | (with_reducible refine Kd.C_drewN ?_ _) | (with_reducible refine Kd.C_drew ?_)))
 (case side2 => exact HC0_2.out)
 rintro e w7 ⟨vz4, rfl, ho0, hb⟩
 refine ⟨_, rfl, ?_⟩
 have n0_ := am (Kd.R_lower ho0 (below_size (by repeat (first | (with_reducible first | exact HB.out | apply below_alloc | apply pw_below_drewN | apply below_drew1 | refine below_set ?_ GEz1.out | refine below_set ?_ GEz2.out) | exact HB.out))))
 have n1_ := am (blk_below (pk BKz1) hb)
 have n2_ := am (blk_below (g := gbz2) (o := .cells #[.string (⟨#[]⟩ : ByteArray), .int .i64 0, .slice none 0 0, .slice none 0 0, .bool false] 50 (0, 0)) (pk BKz2) hb)
 have n3_ := am (below_step (by repeat (first | (with_reducible first | exact HB.out | apply below_alloc | apply pw_below_drewN | apply below_drew1 | refine below_set ?_ GEz1.out | refine below_set ?_ GEz2.out) | exact HB.out)) hb)
 clear BKz1 BKz2 HB; have HOz5 := n0_; have BKz1 := n1_; have BKz2 := n2_; have HB := n3_; clear n0_ n1_ n2_ n3_; (try clear hb); (try clear hb2); (try clear hk); (try clear hi); (try clear ho0)
 refine hK.out _ _ (bc5 BKz1) (fun hHeld => ?_)
 clear hK K
 refine norm_ (by show Act.put _ (some 5) _ = _; simp only [Act.put, sa_, s0_, s1_, i64_w, i32_w]; rfl) ?_
 refine pu_ 6 (some 9) HT_ rfl rfl (by kernel_rfl) (fun _ _ _ h => h) (.inl ⟨by rfl, by intro w'; go_simp; with_reducible rfl⟩) (by simp only [Act.put, sa_, s0_, s1_, i64_w, i32_w]; rfl) ?_
 refine on_ 5 (some 8) HT_ rfl rfl (by kernel_rfl) (by decide) (fun K hK => ?_)
 refine goes_ Try.func70 (by kernel_rfl) rfl #[.slice A0_3 l0_3.length c0_3] (by rfl) rfl rfl (by (try simp only [List.map_toArray, List.map_cons, List.map_nil]); first | done | rfl | (simp only [List.length_drop, List.length_take]; rfl)) ?_
 with_reducible refine (api_Made_70.calls _ _ l0_3 tz6 _ ?side1 ?side2 A3.out).mono ?_
 (case side1 => repeat (first | exact (Kd.C_below HR0_3.out HB.out) | (with_reducible refine Kd.C_alloc ?_ _) | (with_reducible refine Kd.C_drewN ?_ _) | (with_reducible refine Kd.C_drew ?_)))
 (case side2 => exact HC0_3.out)
 rintro e w8 ⟨vz7, rfl, ho0, hb⟩
 refine ⟨_, rfl, ?_⟩
 have n0_ := am (Kd.R_below (pr HOz5) hb)
 have n1_ := am (Kd.R_lower ho0 (below_size (by repeat (first | (with_reducible first | exact HB.out | apply below_alloc | apply pw_below_drewN | apply below_drew1 | refine below_set ?_ GEz1.out | refine below_set ?_ GEz2.out) | exact HB.out))))
 have n2_ := am (blk_below (pk BKz1) hb)
 have n3_ := am (blk_below (g := gbz2) (o := .cells #[.string (⟨#[]⟩ : ByteArray), .int .i64 0, .slice none 0 0, .slice none 0 0, .bool false] 50 (0, 0)) (pk BKz2) hb)
 have n4_ := am (below_step (by repeat (first | (with_reducible first | exact HB.out | apply below_alloc | apply pw_below_drewN | apply below_drew1 | refine below_set ?_ GEz1.out | refine below_set ?_ GEz2.out) | exact HB.out)) hb)
 clear HOz5 BKz1 BKz2 HB; have HOz5 := n0_; have HOz8 := n1_; have BKz1 := n2_; have BKz2 := n3_; have HB := n4_; clear n0_ n1_ n2_ n3_ n4_; (try clear hb); (try clear hb2); (try clear hk); (try clear hi); (try clear ho0)
 obtain ⟨Ao9, co9, eo9⟩ := Kd.R_slice HOz5.out
 (first | subst eo9 | (injection eo9 with f1_ f2_ f3_; have f4_ := f1_.symm; have f5_ := f3_.symm; clear f1_ f2_ f3_; subst f4_; subst f5_))
 obtain ⟨Ao11, co11, eo11⟩ := Kd.R_slice HOz8.out
 (first | subst eo11 | (injection eo11 with f1_ f2_ f3_; have f4_ := f1_.symm; have f5_ := f3_.symm; clear f1_ f2_ f3_; subst f4_; subst f5_))
 refine hK.out _ _ (bc5 BKz1) (fun hHeld => ?_)
 clear hK K
 refine norm_ (by show Act.put _ (some 8) _ = _; simp only [Act.put, sa_, s0_, s1_, i64_w, i32_w]; rfl) ?_
 refine la_ 7 none HT_ rfl rfl (by kernel_rfl) (by decide) (fun K hK => ?_)
 have hs10 : w8.cell? ⟨gbz1, 2, none⟩ = some (.slice A0_2 l0_2.length c0_2) := (blk_cell BKz1.out 2).trans rfl
 have hfs10 := blk_frozen BKz1.out 2
 have hns10_1 := NBz2_z1.out
 have hms10_1 := NBz1_z2.out
 refine skip_ (by rfl) rfl (by go_simp; rfl) ?_
 refine hK.out _ _ ?_
 clear hK K
 refine pu_ 8 (some 10) HT_ rfl rfl (by kernel_rfl) (fun _ _ _ h => h) (.inl ⟨by rfl, by intro w'; go_simp; with_reducible rfl⟩) (by simp only [Act.put, sa_, s0_, s1_, i64_w, i32_w]; rfl) ?_
 refine la_ 9 none HT_ rfl rfl (by kernel_rfl) (by decide) (fun K hK => ?_)
 have hs12 : w8.cell? ⟨gbz1, 3, none⟩ = some (.slice A0_3 l0_3.length c0_3) := (blk_cell BKz1.out 3).trans rfl
 have hfs12 := blk_frozen BKz1.out 3
 have hns12_1 := NBz2_z1.out
 have hms12_1 := NBz1_z2.out
 refine skip_ (by rfl) rfl (by go_simp; rfl) ?_
 refine hK.out _ _ ?_
 clear hK K
 refine done_ (done_of HT_.out (by kernel_rfl)) ?_
 have hnb13 := NBz1_z2.out
 have hnc13 := NBz2_z1.out
 have hcz14_0 : w8.cell? ⟨gbz1, 0, none⟩ = some (.string a0_0) := (blk_cell BKz1.out 0).trans rfl
 have hcz14_1 : w8.cell? ⟨gbz1, 1, none⟩ = some (.int .i64 a0_1) := (blk_cell BKz1.out 1).trans rfl
 have hcz14_2 : w8.cell? ⟨gbz1, 2, none⟩ = some (.slice A0_2 l0_2.length c0_2) := (blk_cell BKz1.out 2).trans rfl
 have hcz14_3 : w8.cell? ⟨gbz1, 3, none⟩ = some (.slice A0_3 l0_3.length c0_3) := (blk_cell BKz1.out 3).trans rfl
 have hcz14_4 : w8.cell? ⟨gbz1, 4, none⟩ = some (.bool a0_4) := (blk_cell BKz1.out 4).trans rfl
 have hfz14_0 := blk_frozen BKz1.out 0
 have hfz14_1 := blk_frozen BKz1.out 1
 have hfz14_2 := blk_frozen BKz1.out 2
 have hfz14_3 := blk_frozen BKz1.out 3
 have hfz14_4 := blk_frozen BKz1.out 4
 have hcz15_0 : w8.cell? ⟨gbz2, 0, none⟩ = some (.string (⟨#[]⟩ : ByteArray)) := (blk_cell BKz2.out 0).trans rfl
 have hcz15_1 : w8.cell? ⟨gbz2, 1, none⟩ = some (.int .i64 0) := (blk_cell BKz2.out 1).trans rfl
 have hcz15_2 : w8.cell? ⟨gbz2, 2, none⟩ = some (.slice none 0 0) := (blk_cell BKz2.out 2).trans rfl
 have hcz15_3 : w8.cell? ⟨gbz2, 3, none⟩ = some (.slice none 0 0) := (blk_cell BKz2.out 3).trans rfl
 have hcz15_4 : w8.cell? ⟨gbz2, 4, none⟩ = some (.bool false) := (blk_cell BKz2.out 4).trans rfl
 have hfz15_0 := blk_frozen BKz2.out 0
 have hfz15_1 := blk_frozen BKz2.out 1
 have hfz15_2 := blk_frozen BKz2.out 2
 have hfz15_3 := blk_frozen BKz2.out 3
 have hfz15_4 := blk_frozen BKz2.out 4
 try go_wp2
 refine bodyPost_ret (results_cell_row rfl _ _ gbz2 50 #[.string a0_0, .int .i64 a0_1, .slice Ao9 tz3.length co9, .slice Ao11 tz6.length co11, .bool a0_4] (0, 0) _ rfl (by (with_reducible repeat (first | refine blk_drewN ?_ _ | refine blk_drew ?_ | refine blk_alloc ?_ _)); refine blk_put (cs := #[.string a0_0, .int .i64 a0_1, .slice Ao9 tz3.length co9, .slice Ao11 tz6.length co11, .bool false]) ?_ 4 _ rfl; (with_reducible repeat (first | refine blk_drewN ?_ _ | refine blk_drew ?_ | refine blk_alloc ?_ _)); refine blk_put (cs := #[.string a0_0, .int .i64 a0_1, .slice Ao9 tz3.length co9, .slice none 0 0, .bool false]) ?_ 3 _ rfl; (with_reducible repeat (first | refine blk_drewN ?_ _ | refine blk_drew ?_ | refine blk_alloc ?_ _)); refine blk_put (cs := #[.string a0_0, .int .i64 a0_1, .slice none 0 0, .slice none 0 0, .bool false]) ?_ 2 _ rfl; (with_reducible repeat (first | refine blk_drewN ?_ _ | refine blk_drew ?_ | refine blk_alloc ?_ _)); refine blk_put (cs := #[.string a0_0, .int .i64 0, .slice none 0 0, .slice none 0 0, .bool false]) ?_ 1 _ rfl; (with_reducible repeat (first | refine blk_drewN ?_ _ | refine blk_drew ?_ | refine blk_alloc ?_ _)); refine blk_put (cs := #[.string (⟨#[]⟩ : ByteArray), .int .i64 0, .slice none 0 0, .slice none 0 0, .bool false]) ?_ 0 _ rfl; (with_reducible repeat (first | refine blk_drewN ?_ _ | refine blk_drew ?_ | refine blk_alloc ?_ _)); refine blk_far ?_ NBz2_z1.out _; (with_reducible repeat (first | refine blk_drewN ?_ _ | refine blk_drew ?_ | refine blk_alloc ?_ _)); refine blk_far ?_ NBz2_z1.out _; (with_reducible repeat (first | refine blk_drewN ?_ _ | refine blk_drew ?_ | refine blk_alloc ?_ _)); exact BKz2.out) Try.underlying50 rfl (by kernel_rfl)) rfl ?_
 exact ⟨_, _, by first | rfl | (simp [errW_none, errW_some] <;> rfl) | (simp [*, errW_none, errW_some] <;> rfl), by (with_reducible repeat (first | apply Kd.R_alloc | apply Kd.R_drewN | apply Kd.R_drew)); exact Kd.R_mono (rf5 (Kd.R_far (p := ⟨gbz1, 3, none⟩) (Kd.R_far (p := ⟨gbz1, 2, none⟩) (Kd.R_types (Kd.R_types HOz5.out BKz1.out (by decide)) BKz2.out (by decide)) (fun _ hk => hk.1.2) (.slice Ao9 tz3.length co9)) (fun _ hk => hk.1.2) (.slice Ao11 tz6.length co11)) (fun _ hk => hk.2)) (fun _ hk => trivial), by (with_reducible repeat (first | apply Kd.R_alloc | apply Kd.R_drewN | apply Kd.R_drew)); exact Kd.R_mono (rf5 (Kd.R_far (p := ⟨gbz1, 3, none⟩) (Kd.R_far (p := ⟨gbz1, 2, none⟩) (Kd.R_types (Kd.R_types HOz8.out BKz1.out (by decide)) BKz2.out (by decide)) (fun _ hk => hk.1.2) (.slice Ao9 tz3.length co9)) (fun _ hk => hk.1.2) (.slice Ao11 tz6.length co11)) (fun _ hk => hk.2)) (fun _ hk => trivial), by repeat (first | (with_reducible first | exact HB.out | apply below_alloc | apply pw_below_drewN | apply below_drew1 | refine below_set ?_ GEz1.out | refine below_set ?_ GEz2.out) | exact HB.out)⟩
end Go.Proofs.Ytmkncddbecmlpaa.Pr
end
section
namespace Go.Proofs.Ytmkncddbecmlpaa.Pr
open Go.Proofs.Ytmkncddbecmlpaa.Sq Go.RowKit Go.Proofs.YtmkncddbecmlpaaW.PrintWords Go.Proofs.YtmkncddbecmlpaaW.PrintLast Go.Proofs.YtmkncddbecmlpaaW.PrintMore
attribute [local go_sem] max2_int min2_int max_two min_two max_three min_three max_four min_four
set_option linter.unusedVariables false
set_option linter.unusedSimpArgs false
def tape_Right.f (a0_0 : ByteArray) (a0_1 : Int) : Option (Bool) := if (a0_0.size : Int) ≤ 65536 then (if a0_1 ≥ 0 then (some (decide (a0_1 ≤ (a0_0.size : Int)))) else (some false)) else (some false)
set_option maxHeartbeats 8000000 in
set_option maxRecDepth 100000 in
theorem tape_Right.calls (a0_0 : ByteArray) (a0_1 : Int) (r : Bool) (w : World) (h : tape_Right.f a0_0 a0_1 = some r) :
  Calls Try.prog 16 #[.agg #[.string a0_0, .int .i64 a0_1]] w fun e w' => e = .returned (.bool r) ∧ Below w.heap.size w w' := by
 have hu23 := Try.underlying23
 have HB := am (Below.refl w.heap.size w)
 have H : (if (a0_0.size : Int) ≤ 65536 then (if a0_1 ≥ 0 then (some (decide (a0_1 ≤ (a0_0.size : Int)))) else (some false)) else (some false)) = some r := h
 clear h
 by_cases c2 : (a0_0.size : Int) ≤ 65536
 rotate_left
 ·rw [if_neg c2] at H
  have c2b0 : decide ((a0_0.size : Int) ≤ 65536) = false := decide_eq_false c2
  have c2b1 : decide (a0_0.size ≤ 65536) = false := decide_eq_false (by omega)
  clear c2
  obtain rfl := Option.some.inj H
  go_enter Try.func16, Try.ntmps16
  go_wp2_with (first | ((with_reducible refine gate_dst (N := 1) rfl ?_); (try (refine gate_guard (by rfl) ?_; dsimp only)); refine box_event ?hg (N := 1) ?hd (cs := #[.string a0_0, .int .i64 a0_1]) (t := 23) ?hr ?_; (case hd => rfl); (case hg => rfl); (case hr => first | (go_simp; done) | (go_simp; rfl)); intro gbz1 hg w8 hbox hb; have n0_ := am (below_step (pb HB) hb); have n1_ := am (hbox); have n2_ := am ((by rw [hg]; exact (below_size (pb HB)) : w.heap.size ≤ gbz1)); have n3_ := am ((by rw [hg]; exact (below_size (pb HB)) : w.heap.size ≤ gbz1)); clear HB; have HB := n0_; have BKz1 := n1_; have GWz1 := n2_; have GEz1 := n3_; clear n0_ n1_ n2_ n3_; clear hb hbox hg; have hcz9_0 : w8.cell? ⟨gbz1, 0, none⟩ = some (.string a0_0) := (blk_cell BKz1.out 0).trans rfl; have hcz9_1 : w8.cell? ⟨gbz1, 1, none⟩ = some (.int .i64 a0_1) := (blk_cell BKz1.out 1).trans rfl; have hfz9_0 := blk_frozen BKz1.out 0; have hfz9_1 := blk_frozen BKz1.out 1))
  go_ret
  exact ⟨by first | rfl | (simp [errW_none, errW_some] <;> rfl) | (simp [*, errW_none, errW_some] <;> rfl), by repeat (first | (with_reducible first | exact HB.out | apply below_alloc | apply pw_below_drewN | apply below_drew1 | refine below_set ?_ GEz1.out) | exact HB.out)⟩
 rw [if_pos c2] at H
 have c2b0 : decide ((a0_0.size : Int) ≤ 65536) = true := decide_eq_true c2
 have c2b1 : decide (a0_0.size ≤ 65536) = true := decide_eq_true (by omega)
 clear c2
 by_cases c3 : a0_1 ≥ 0
 ·rw [if_pos c3] at H
  have c3b0 : decide (0 ≤ a0_1) = true := decide_eq_true c3
  clear c3
  obtain rfl := Option.some.inj H
  go_enter Try.func16, Try.ntmps16
  go_wp2_with (first | ((with_reducible refine gate_dst (N := 1) rfl ?_); (try (refine gate_guard (by rfl) ?_; dsimp only)); refine box_event ?hg (N := 1) ?hd (cs := #[.string a0_0, .int .i64 a0_1]) (t := 23) ?hr ?_; (case hd => rfl); (case hg => rfl); (case hr => first | (go_simp; done) | (go_simp; rfl)); intro gbz1 hg w4 hbox hb; have n0_ := am (below_step (pb HB) hb); have n1_ := am (hbox); have n2_ := am ((by rw [hg]; exact (below_size (pb HB)) : w.heap.size ≤ gbz1)); have n3_ := am ((by rw [hg]; exact (below_size (pb HB)) : w.heap.size ≤ gbz1)); clear HB; have HB := n0_; have BKz1 := n1_; have GWz1 := n2_; have GEz1 := n3_; clear n0_ n1_ n2_ n3_; clear hb hbox hg; have hcz5_0 : w4.cell? ⟨gbz1, 0, none⟩ = some (.string a0_0) := (blk_cell BKz1.out 0).trans rfl; have hcz5_1 : w4.cell? ⟨gbz1, 1, none⟩ = some (.int .i64 a0_1) := (blk_cell BKz1.out 1).trans rfl; have hfz5_0 := blk_frozen BKz1.out 0; have hfz5_1 := blk_frozen BKz1.out 1))
  go_ret
  exact ⟨by first | rfl | (simp [errW_none, errW_some] <;> rfl) | (simp [*, errW_none, errW_some] <;> rfl), by repeat (first | (with_reducible first | exact HB.out | apply below_alloc | apply pw_below_drewN | apply below_drew1 | refine below_set ?_ GEz1.out) | exact HB.out)⟩
 rw [if_neg c3] at H
 have c3b0 : decide (0 ≤ a0_1) = false := decide_eq_false c3
 clear c3
 obtain rfl := Option.some.inj H
 go_enter Try.func16, Try.ntmps16
 go_wp2_with (first | ((with_reducible refine gate_dst (N := 1) rfl ?_); (try (refine gate_guard (by rfl) ?_; dsimp only)); refine box_event ?hg (N := 1) ?hd (cs := #[.string a0_0, .int .i64 a0_1]) (t := 23) ?hr ?_; (case hd => rfl); (case hg => rfl); (case hr => first | (go_simp; done) | (go_simp; rfl)); intro gbz1 hg w6 hbox hb; have n0_ := am (below_step (pb HB) hb); have n1_ := am (hbox); have n2_ := am ((by rw [hg]; exact (below_size (pb HB)) : w.heap.size ≤ gbz1)); have n3_ := am ((by rw [hg]; exact (below_size (pb HB)) : w.heap.size ≤ gbz1)); clear HB; have HB := n0_; have BKz1 := n1_; have GWz1 := n2_; have GEz1 := n3_; clear n0_ n1_ n2_ n3_; clear hb hbox hg; have hcz7_0 : w6.cell? ⟨gbz1, 0, none⟩ = some (.string a0_0) := (blk_cell BKz1.out 0).trans rfl; have hcz7_1 : w6.cell? ⟨gbz1, 1, none⟩ = some (.int .i64 a0_1) := (blk_cell BKz1.out 1).trans rfl; have hfz7_0 := blk_frozen BKz1.out 0; have hfz7_1 := blk_frozen BKz1.out 1))
 go_ret
 exact ⟨by first | rfl | (simp [errW_none, errW_some] <;> rfl) | (simp [*, errW_none, errW_some] <;> rfl), by repeat (first | (with_reducible first | exact HB.out | apply below_alloc | apply pw_below_drewN | apply below_drew1 | refine below_set ?_ GEz1.out) | exact HB.out)⟩
end Go.Proofs.Ytmkncddbecmlpaa.Pr
end
section
namespace Go.Proofs.Ytmkncddbecmlpaa.Pr
open Go.Proofs.Ytmkncddbecmlpaa.Sq Go.RowKit Go.Proofs.YtmkncddbecmlpaaW.PrintWords Go.Proofs.YtmkncddbecmlpaaW.PrintLast Go.Proofs.YtmkncddbecmlpaaW.PrintMore
attribute [local go_sem] max2_int min2_int max_two min_two max_three min_three max_four min_four
set_option linter.unusedVariables false
set_option linter.unusedSimpArgs false
def tape_Left.f (a0_0 : ByteArray) (a0_1 : Int) : Option (Int) := (tape_Right.f a0_0 a0_1).bind fun tz2 => (if tz2 = true then (some (wrap64 ((a0_0.size : Int) - a0_1))) else (some 0))
set_option maxHeartbeats 8000000 in
set_option maxRecDepth 100000 in
theorem tape_Left.calls (a0_0 : ByteArray) (a0_1 : Int) (r : Int) (w : World) (h : tape_Left.f a0_0 a0_1 = some r) :
  Calls Try.prog 18 #[.agg #[.string a0_0, .int .i64 a0_1]] w fun e w' => e = .returned (.int .i64 r) ∧ Below w.heap.size w w' := by
 have hu23 := Try.underlying23
 have HB := am (Below.refl w.heap.size w)
 have H : ((tape_Right.f a0_0 a0_1).bind fun tz2 => (if tz2 = true then (some (wrap64 ((a0_0.size : Int) - a0_1))) else (some 0))) = some r := h
 clear h
 replace H := Option.bind_eq_some_iff.mp H
 obtain ⟨tz2, A20, H⟩ := H
 replace H : (if tz2 = true then (some (wrap64 ((a0_0.size : Int) - a0_1))) else (some 0)) = some r := H
 have A2 := Aside0.mk A20
 clear A20
 by_cases c3 : tz2 = true
 rotate_left
 ·replace c3 := Bool.eq_false_iff.mpr c3
  subst c3
  have H1 : (some 0) = some r := by rw [if_neg (show ¬ (false = true) by decide)] at H; exact H
  clear H
  have H := H1
  clear H1
  obtain rfl := Option.some.inj H
  go_enter Try.func18, Try.ntmps18
  go_wp2_with (first | ((with_reducible refine gate_dst (N := 1) rfl ?_); refine box_event ?hg (N := 1) ?hd (cs := #[.string a0_0, .int .i64 a0_1]) (t := 23) ?hr ?_; (case hd => rfl); (case hg => rfl); (case hr => first | (go_simp; done) | (go_simp; rfl)); intro gbz1 hg w8 hbox hb; have n0_ := am (below_step (pb HB) hb); have n1_ := am (hbox); have n2_ := am ((by rw [hg]; exact (below_size (pb HB)) : w.heap.size ≤ gbz1)); have n3_ := am ((by rw [hg]; exact (below_size (pb HB)) : w.heap.size ≤ gbz1)); clear HB; have HB := n0_; have BKz1 := n1_; have GWz1 := n2_; have GEz1 := n3_; clear n0_ n1_ n2_ n3_; clear hb hbox hg; have hcz9_0 : w8.cell? ⟨gbz1, 0, none⟩ = some (.string a0_0) := (blk_cell BKz1.out 0).trans rfl; have hcz9_1 : w8.cell? ⟨gbz1, 1, none⟩ = some (.int .i64 a0_1) := (blk_cell BKz1.out 1).trans rfl; have hfz9_0 := blk_frozen BKz1.out 0; have hfz9_1 := blk_frozen BKz1.out 1) | ((with_reducible refine gate_callee (f := 16) rfl ?_); refine goesL_ (some 4) rfl rfl Try.func16 (by kernel_rfl) rfl #[.agg #[.string a0_0, .int .i64 a0_1]] rfl (by (try simp only [List.map_toArray, List.map_cons, List.map_nil]); first | done | rfl | (simp only [List.length_drop, List.length_take]; rfl)) ?_; (with_reducible refine (tape_Right.calls a0_0 a0_1 false _ A2.out).mono ?_); rintro e w10 ⟨rfl, hb⟩; refine ⟨_, rfl, ?_⟩; have n0_ := am (blk_below (pk BKz1) hb); have n1_ := am (below_step (by repeat (first | (with_reducible first | exact HB.out | apply below_alloc | apply pw_below_drewN | apply below_drew1 | refine below_set ?_ GEz1.out) | exact HB.out)) hb); clear BKz1; clear HB; have BKz1 := n0_; have HB := n1_; clear n0_ n1_; (try clear hb); (try clear hb2); (try clear hk); (try clear hi)))
  go_ret
  exact ⟨by first | rfl | (simp [errW_none, errW_some] <;> rfl) | (simp [*, errW_none, errW_some] <;> rfl), by repeat (first | (with_reducible first | exact HB.out | apply below_alloc | apply pw_below_drewN | apply below_drew1 | refine below_set ?_ GEz1.out) | exact HB.out)⟩
 subst c3
 have H1 : (some (wrap64 ((a0_0.size : Int) - a0_1))) = some r := by rw [if_pos rfl] at H; exact H
 clear H
 have H := H1
 clear H1
 obtain rfl := Option.some.inj H
 go_enter Try.func18, Try.ntmps18
 go_wp2_with (first | ((with_reducible refine gate_dst (N := 1) rfl ?_); refine box_event ?hg (N := 1) ?hd (cs := #[.string a0_0, .int .i64 a0_1]) (t := 23) ?hr ?_; (case hd => rfl); (case hg => rfl); (case hr => first | (go_simp; done) | (go_simp; rfl)); intro gbz1 hg w4 hbox hb; have n0_ := am (below_step (pb HB) hb); have n1_ := am (hbox); have n2_ := am ((by rw [hg]; exact (below_size (pb HB)) : w.heap.size ≤ gbz1)); have n3_ := am ((by rw [hg]; exact (below_size (pb HB)) : w.heap.size ≤ gbz1)); clear HB; have HB := n0_; have BKz1 := n1_; have GWz1 := n2_; have GEz1 := n3_; clear n0_ n1_ n2_ n3_; clear hb hbox hg; have hcz5_0 : w4.cell? ⟨gbz1, 0, none⟩ = some (.string a0_0) := (blk_cell BKz1.out 0).trans rfl; have hcz5_1 : w4.cell? ⟨gbz1, 1, none⟩ = some (.int .i64 a0_1) := (blk_cell BKz1.out 1).trans rfl; have hfz5_0 := blk_frozen BKz1.out 0; have hfz5_1 := blk_frozen BKz1.out 1) | ((with_reducible refine gate_callee (f := 16) rfl ?_); refine goesL_ (some 4) rfl rfl Try.func16 (by kernel_rfl) rfl #[.agg #[.string a0_0, .int .i64 a0_1]] rfl (by (try simp only [List.map_toArray, List.map_cons, List.map_nil]); first | done | rfl | (simp only [List.length_drop, List.length_take]; rfl)) ?_; (with_reducible refine (tape_Right.calls a0_0 a0_1 true _ A2.out).mono ?_); rintro e w6 ⟨rfl, hb⟩; refine ⟨_, rfl, ?_⟩; have n0_ := am (blk_below (pk BKz1) hb); have n1_ := am (below_step (by repeat (first | (with_reducible first | exact HB.out | apply below_alloc | apply pw_below_drewN | apply below_drew1 | refine below_set ?_ GEz1.out) | exact HB.out)) hb); clear BKz1; clear HB; have BKz1 := n0_; have HB := n1_; clear n0_ n1_; (try clear hb); (try clear hb2); (try clear hk); (try clear hi); have hcz7_0 : w6.cell? ⟨gbz1, 0, none⟩ = some (.string a0_0) := (blk_cell BKz1.out 0).trans rfl; have hcz7_1 : w6.cell? ⟨gbz1, 1, none⟩ = some (.int .i64 a0_1) := (blk_cell BKz1.out 1).trans rfl; have hfz7_0 := blk_frozen BKz1.out 0; have hfz7_1 := blk_frozen BKz1.out 1))
 go_ret
 exact ⟨by first | rfl | (simp [errW_none, errW_some] <;> rfl) | (simp [*, errW_none, errW_some] <;> rfl), by repeat (first | (with_reducible first | exact HB.out | apply below_alloc | apply pw_below_drewN | apply below_drew1 | refine below_set ?_ GEz1.out) | exact HB.out)⟩
end Go.Proofs.Ytmkncddbecmlpaa.Pr
end
section
namespace Go.Proofs.Ytmkncddbecmlpaa.Pr
open Go.Proofs.Ytmkncddbecmlpaa.Sq Go.RowKit Go.Proofs.YtmkncddbecmlpaaW.PrintWords Go.Proofs.YtmkncddbecmlpaaW.PrintLast Go.Proofs.YtmkncddbecmlpaaW.PrintMore
attribute [local go_sem] max2_int min2_int max_two min_two max_three min_three max_four min_four
set_option linter.unusedVariables false
set_option linter.unusedSimpArgs false
def tape_Take.j0 : Nat → Int → Bool → ByteArray → Int → Option (ByteArray × ByteArray × Int × Int)
 | 0, _, _, _, _ => none
 | k + 1, x1, x8, xz2000, xz2001 => if x8 = true then (some ((⟨#[]⟩ : ByteArray), xz2000, xz2001, 1)) else ((tape_Left.f xz2000 xz2001).bind fun tz4 => (if x1 > tz4 then (some ((⟨#[]⟩ : ByteArray), xz2000, xz2001, 12)) else (if 0 ≤ xz2001 then (if xz2001 ≤ (xz2000.size : Int) then (if 0 ≤ x1 then (if x1 ≤ ((xz2000.extract (xz2001 : Int).toNat xz2000.size).size : Int) then (some ((xz2000.extract (xz2001 : Int).toNat xz2000.size).extract 0 (x1 : Int).toNat, xz2000, wrap64 (xz2001 + x1), 0)) else (none)) else (none)) else (none)) else (none))))
def tape_Take.f (k : Nat) (a0_0 : ByteArray) (a0_1 : Int) (a1 : Int) : Option (ByteArray × ByteArray × Int × Int) := (tape_Right.f a0_0 a0_1).bind fun tz3 => (if tz3 = true then (tape_Take.j0 k a1 (decide (a1 < 0)) a0_0 a0_1) else (tape_Take.j0 k a1 (!tz3) a0_0 a0_1))
set_option maxHeartbeats 8000000 in
set_option maxRecDepth 100000 in
theorem tape_Take.calls (k : Nat) (a0_0 : ByteArray) (a0_1 : Int) (a1 : Int) (r1 : ByteArray) (r2 : ByteArray) (r3 : Int) (r4 : Int) (w : World) (h : tape_Take.f k a0_0 a0_1 a1 = some (r1, r2, r3, r4)) :
  Calls Try.prog 21 #[.agg #[.string a0_0, .int .i64 a0_1], .int .i64 a1] w fun e w' => e = .returned (.tuple #[.string r1, .agg #[.string r2, .int .i64 r3], .int .i64 r4]) ∧ Below w.heap.size w w' := by
 have hu23 := Try.underlying23
 have HB := am (Below.refl w.heap.size w)
 have H : ((tape_Right.f a0_0 a0_1).bind fun tz3 => (if tz3 = true then (tape_Take.j0 k a1 (decide (a1 < 0)) a0_0 a0_1) else (tape_Take.j0 k a1 (!tz3) a0_0 a0_1))) = some (r1, r2, r3, r4) := h
 clear h
 replace H := Option.bind_eq_some_iff.mp H
 obtain ⟨tz3, A30, H⟩ := H
 replace H : (if tz3 = true then (tape_Take.j0 k a1 (decide (a1 < 0)) a0_0 a0_1) else (tape_Take.j0 k a1 (!tz3) a0_0 a0_1)) = some (r1, r2, r3, r4) := H
 have A3 := Aside0.mk A30
 clear A30
 have HC4 := am H
 clear H
 go_enter Try.func21, Try.ntmps21
 go_upto_if 8 with (first | ((with_reducible refine gate_dst (N := 2) rfl ?_); refine box_event ?hg (N := 2) ?hd (cs := #[.string a0_0, .int .i64 a0_1]) (t := 23) ?hr ?_; (case hd => rfl); (case hg => rfl); (case hr => first | (go_simp; done) | (go_simp; rfl)); intro gbz1 hg w5 hbox hb; have n0_ := am (below_step (pb HB) hb); have n1_ := am (hbox); have n2_ := am ((by rw [hg]; exact (below_size (pb HB)) : w.heap.size ≤ gbz1)); have n3_ := am ((by rw [hg]; exact (below_size (pb HB)) : w.heap.size ≤ gbz1)); clear HB; have HB := n0_; have BKz1 := n1_; have GWz1 := n2_; have GEz1 := n3_; clear n0_ n1_ n2_ n3_; clear hb hbox hg) | ((with_reducible refine gate_dst (N := 5) rfl ?_); refine box_event ?hg (N := 5) ?hd (cs := #[.string (⟨#[]⟩ : ByteArray), .int .i64 0]) (t := 23) ?hr ?_; (case hd => rfl); (case hg => rfl); (case hr => first | (go_simp; done) | (go_simp; rfl)); intro gbz2 hg w6 hbox hb; have n0_ := am (blk_below (pk BKz1) hb); have n1_ := am (below_step (by repeat (first | (with_reducible first | exact HB.out | apply below_alloc | apply pw_below_drewN | apply below_drew1 | refine below_set ?_ GEz1.out) | exact HB.out)) hb); have n2_ := am (hbox); have n3_ := am ((by rw [hg]; exact (below_size (by repeat (first | (with_reducible first | exact HB.out | apply below_alloc | apply pw_below_drewN | apply below_drew1 | refine below_set ?_ GEz1.out) | exact HB.out))) : w.heap.size ≤ gbz2)); have n4_ := am ((by rw [hg]; exact (below_size (by repeat (first | (with_reducible first | exact HB.out | apply below_alloc | apply pw_below_drewN | apply below_drew1 | refine below_set ?_ GEz1.out) | exact HB.out))) : w.heap.size ≤ gbz2)); have n5_ := am ((by rw [hg]; exact Nat.ne_of_lt (blk_lt (g := gbz1) (o := .cells #[.string a0_0, .int .i64 a0_1] 23 (0, 0)) (pk BKz1)) : gbz1 ≠ gbz2)); have n6_ := am ((by rw [hg]; exact Nat.ne_of_gt (blk_lt (g := gbz1) (o := .cells #[.string a0_0, .int .i64 a0_1] 23 (0, 0)) (pk BKz1)) : gbz2 ≠ gbz1)); clear BKz1; clear HB; have BKz1 := n0_; have HB := n1_; have BKz2 := n2_; have GWz2 := n3_; have GEz2 := n4_; have NBz1_z2 := n5_; have NBz2_z1 := n6_; clear n0_ n1_ n2_ n3_ n4_ n5_ n6_; clear hb hbox hg; have hnb7 := NBz1_z2.out; have hnc7 := NBz2_z1.out; have hcz8_0 : w6.cell? ⟨gbz1, 0, none⟩ = some (.string a0_0) := (blk_cell BKz1.out 0).trans rfl; have hcz8_1 : w6.cell? ⟨gbz1, 1, none⟩ = some (.int .i64 a0_1) := (blk_cell BKz1.out 1).trans rfl; have hfz8_0 := blk_frozen BKz1.out 0; have hfz8_1 := blk_frozen BKz1.out 1) | ((with_reducible refine gate_callee (f := 16) rfl ?_); refine goesL_ (some 10) rfl rfl Try.func16 (by kernel_rfl) rfl #[.agg #[.string a0_0, .int .i64 a0_1]] rfl (by (try simp only [List.map_toArray, List.map_cons, List.map_nil]); first | done | rfl | (simp only [List.length_drop, List.length_take]; rfl)) ?_; (with_reducible refine (tape_Right.calls a0_0 a0_1 tz3 _ A3.out).mono ?_); rintro e w9 ⟨rfl, hb⟩; refine ⟨_, rfl, ?_⟩; have n0_ := am (blk_below (pk BKz1) hb); have n1_ := am (blk_below (g := gbz2) (o := .cells #[.string (⟨#[]⟩ : ByteArray), .int .i64 0] 23 (0, 0)) (pk BKz2) hb); have n2_ := am (below_step (by repeat (first | (with_reducible first | exact HB.out | apply below_alloc | apply pw_below_drewN | apply below_drew1 | refine below_set ?_ GEz1.out | refine below_set ?_ GEz2.out) | exact HB.out)) hb); clear BKz1; clear BKz2; clear HB; have BKz1 := n0_; have BKz2 := n1_; have HB := n2_; clear n0_ n1_ n2_; (try clear hb); (try clear hb2); (try clear hk); (try clear hi)))
 (try simp only [Act.put, List.setIfInBounds_toArray, List.set_cons_zero, List.set_cons_succ])
 go_cut [8] (fun v8 wc => ∃ (kq : Nat) (x8_3 : Bool), v8 = .bool x8_3 ∧ Aside0 (tape_Take.j0 kq a1 x8_3 a0_0 a0_1 = some (r1, r2, r3, r4)) ∧ Aside0 (kq ≤ k) ∧ Aside0 (wc.heap[gbz1]? = some (.cells #[.string a0_0, .int .i64 a0_1] 23 (0, 0))) ∧ Aside0 (wc.heap[gbz2]? = some (.cells #[.string (⟨#[]⟩ : ByteArray), .int .i64 0] 23 (0, 0))) ∧ Aside0 (Below w.heap.size w wc))
 case first =>
  have H := HC4.out
  clear HC4
  by_cases c10 : tz3 = true
  ·subst c10
   have H1 : (tape_Take.j0 k a1 (decide (a1 < 0)) a0_0 a0_1) = some (r1, r2, r3, r4) := by rw [if_pos rfl] at H; exact H
   clear H
   have H := H1
   clear H1
   have H' := am H
   clear H
   go_wp2
   go_meet
   case rel => exact ⟨_, (decide (a1 < 0)), (by first | rfl | (simp; done) | (simp [*]; done)), H', ⟨by first | omega | exact Nat.le_refl _⟩, ⟨by (with_reducible repeat (first | refine blk_drewN ?_ _ | refine blk_drew ?_ | refine blk_alloc ?_ _)); exact BKz1.out⟩, ⟨by (with_reducible repeat (first | refine blk_drewN ?_ _ | refine blk_drew ?_ | refine blk_alloc ?_ _)); exact BKz2.out⟩, ⟨by repeat (first | (with_reducible first | exact HB.out | apply below_alloc | apply pw_below_drewN | apply below_drew1 | refine below_set ?_ GEz1.out | refine below_set ?_ GEz2.out) | exact HB.out)⟩⟩
  replace c10 := Bool.eq_false_iff.mpr c10
  subst c10
  have H1 : (tape_Take.j0 k a1 (!false) a0_0 a0_1) = some (r1, r2, r3, r4) := by rw [if_neg (show ¬ (false = true) by decide)] at H; exact H
  clear H
  have H := H1
  clear H1
  have H' := am H
  clear H
  go_wp2
  go_meet
  case rel => exact ⟨_, (!false), (by first | rfl | (simp; done) | (simp [*]; done)), H', ⟨by first | omega | exact Nat.le_refl _⟩, ⟨by (with_reducible repeat (first | refine blk_drewN ?_ _ | refine blk_drew ?_ | refine blk_alloc ?_ _)); exact BKz1.out⟩, ⟨by (with_reducible repeat (first | refine blk_drewN ?_ _ | refine blk_drew ?_ | refine blk_alloc ?_ _)); exact BKz2.out⟩, ⟨by repeat (first | (with_reducible first | exact HB.out | apply below_alloc | apply pw_below_drewN | apply below_drew1 | refine below_set ?_ GEz1.out | refine below_set ?_ GEz2.out) | exact HB.out)⟩⟩
 case rest =>
  clear HC4
  try clear c1
  try clear c2
  try clear p2
  try clear c7
  try clear c10
  try clear hcz8_0
  try clear hcz8_1
  try clear hfz8_0
  try clear hfz8_1
  obtain ⟨kq, x8_3, rfl, HA, HJ3, BKz1, BKz2, HB⟩ := hcut
  cases kq with
  | zero => exact absurd HA.out (by simp [tape_Take.j0])
  | succ kj3 =>
   have H := HA.out
   clear HA
   simp only [tape_Take.j0] at H
   by_cases c11 : x8_3 = true
   ·subst c11
    have H1 : (some ((⟨#[]⟩ : ByteArray), a0_0, a0_1, 1)) = some (r1, r2, r3, r4) := by rw [if_pos rfl] at H; exact H
    clear H
    have H := H1
    clear H1
    simp only [Option.some.injEq, Prod.mk.injEq] at H
    obtain ⟨rfl, rfl, rfl, rfl⟩ := H
    try go_wp2
    have n0_ := am (blk_drew BKz1.out)
    have n1_ := am (blk_drew BKz2.out)
    have n2_ := am (below_drew1 HB.out)
    clear BKz1 BKz2 HB; have BKz1 := n0_; have BKz2 := n1_; have HB := n2_; clear n0_ n1_ n2_
    refine start_ (n := 4) (S := fun w' => w'.cell? ⟨gbz1, 0, none⟩ = some (.string a0_0) ∧ w'.cell? ⟨gbz1, 1, none⟩ = some (.int .i64 a0_1)) (ds := []) #[false, false, false, false] (by kernel_rfl) rfl rfl (bc2 BKz1) (fun hHeld => ?_)
    generalize wc.drew = w12 at BKz1 BKz2 HB hHeld ⊢
    refine pure_ (i := 1) (N := some 4) (v := ?_) (a' := ?_) #[false, true, false, false] rfl rfl (by kernel_rfl) (fun _ _ _ h => h) (Or.inl ⟨by rfl, ?_⟩) ?_ ?_
    rotate_left
    ·intro w'
     go_simp
     with_reducible rfl
    rotate_left
    ·simp only [Act.put, List.setIfInBounds_toArray, List.set_cons_zero, List.set_cons_succ, i64_w, i32_w]
     rfl
    refine take_ (i := 0) (N := some 14) (v := ?_) (a' := ?_) #[true, true, false, false] rfl rfl (by kernel_rfl) (fun _ _ _ h => h) (Or.inl ⟨by rfl, ?_⟩) hHeld ?_ ?_
    rotate_left
    ·rintro w' ⟨s0, s1⟩
     go_simp
     with_reducible rfl
    rotate_left
    ·simp only [Act.put, List.setIfInBounds_toArray, List.set_cons_zero, List.set_cons_succ, i64_w, i32_w]
     rfl
    refine one_ (i := 2) (N := none) #[true, true, true, false] rfl rfl (by kernel_rfl) (by decide) (fun K hK => ?_)
    have hs13 : w12.cell? ⟨gbz2, 0, none⟩ = some (.string (⟨#[]⟩ : ByteArray)) := (blk_cell BKz2.out 0).trans rfl
    have hfs13 := blk_frozen BKz2.out 0
    have hns13_0 := NBz1_z2.out
    have hms13_0 := NBz2_z1.out
    have hs14 : w12.cell? ⟨gbz2, 1, none⟩ = some (.int .i64 0) := (blk_cell BKz2.out 1).trans rfl
    have hfs14 := blk_frozen BKz2.out 1
    have hns14_0 := NBz1_z2.out
    have hms14_0 := NBz2_z1.out
    refine skip_ (by rfl) rfl (by go_simp; rfl) ?_
    refine hK.out _ _ ⟨((cell_far (p := ⟨gbz2, _, none⟩) NBz1_z2.out _).trans (((cell_far (p := ⟨gbz2, _, none⟩) NBz1_z2.out _).trans (hHeld.1)))), ((cell_far (p := ⟨gbz2, _, none⟩) NBz1_z2.out _).trans (((cell_far (p := ⟨gbz2, _, none⟩) NBz1_z2.out _).trans (hHeld.2))))⟩ (fun hHeld => ?_)
    clear hK K
    refine pure_ (i := 3) (N := some 6) (v := ?_) (a' := ?_) #[true, true, true, true] rfl rfl (by kernel_rfl) (fun _ _ _ h => h) (Or.inl ⟨by rfl, ?_⟩) ?_ ?_
    rotate_left
    ·intro w'
     go_simp
     with_reducible rfl
    rotate_left
    ·simp only [Act.put, List.setIfInBounds_toArray, List.set_cons_zero, List.set_cons_succ, i64_w, i32_w]
     rfl
    refine done_ (by kernel_rfl) ?_
    try go_wp2
    refine bodyPost_ret (results_list (rs := [.tmp 4, .cell 5 23, .tmp 6]) rfl (by simp) (.tmp (.cell gbz2 23 #[.string a0_0, .int .i64 a0_1] (0, 0) _ rfl (by (with_reducible repeat (first | refine blk_drewN ?_ _ | refine blk_drew ?_ | refine blk_alloc ?_ _)); refine blk_put (cs := #[.string a0_0, .int .i64 0]) ?_ 1 _ rfl; (with_reducible repeat (first | refine blk_drewN ?_ _ | refine blk_drew ?_ | refine blk_alloc ?_ _)); refine blk_put (cs := #[.string (⟨#[]⟩ : ByteArray), .int .i64 0]) ?_ 0 _ rfl; (with_reducible repeat (first | refine blk_drewN ?_ _ | refine blk_drew ?_ | refine blk_alloc ?_ _)); exact BKz2.out) Try.underlying23 rfl (by kernel_rfl) (.tmp .nil)))) rfl ?_
    exact ⟨by first | rfl | (simp [errW_none, errW_some] <;> rfl) | (simp [*, errW_none, errW_some] <;> rfl), by repeat (first | (with_reducible first | exact HB.out | apply below_alloc | apply pw_below_drewN | apply below_drew1 | refine below_set ?_ GEz1.out | refine below_set ?_ GEz2.out) | exact HB.out)⟩
   replace c11 := Bool.eq_false_iff.mpr c11
   subst c11
   have H1 : ((tape_Left.f a0_0 a0_1).bind fun tz4 => (if a1 > tz4 then (some ((⟨#[]⟩ : ByteArray), a0_0, a0_1, 12)) else (if 0 ≤ a0_1 then (if a0_1 ≤ (a0_0.size : Int) then (if 0 ≤ a1 then (if a1 ≤ ((a0_0.extract (a0_1 : Int).toNat a0_0.size).size : Int) then (some ((a0_0.extract (a0_1 : Int).toNat a0_0.size).extract 0 (a1 : Int).toNat, a0_0, wrap64 (a0_1 + a1), 0)) else (none)) else (none)) else (none)) else (none)))) = some (r1, r2, r3, r4) := by rw [if_neg (show ¬ (false = true) by decide)] at H; exact H
   clear H
   have H := H1
   clear H1
   replace H := Option.bind_eq_some_iff.mp H
   obtain ⟨tz4, A150, H⟩ := H
   replace H : (if a1 > tz4 then (some ((⟨#[]⟩ : ByteArray), a0_0, a0_1, 12)) else (if 0 ≤ a0_1 then (if a0_1 ≤ (a0_0.size : Int) then (if 0 ≤ a1 then (if a1 ≤ ((a0_0.extract (a0_1 : Int).toNat a0_0.size).size : Int) then (some ((a0_0.extract (a0_1 : Int).toNat a0_0.size).extract 0 (a1 : Int).toNat, a0_0, wrap64 (a0_1 + a1), 0)) else (none)) else (none)) else (none)) else (none))) = some (r1, r2, r3, r4) := H
   have A15 := Aside0.mk A150
   clear A150
   by_cases c16 : a1 > tz4
   ·rw [if_pos c16] at H
    have c16b0 : decide (tz4 < a1) = true := decide_eq_true c16
    clear c16
    simp only [Option.some.injEq, Prod.mk.injEq] at H
    obtain ⟨rfl, rfl, rfl, rfl⟩ := H
    have hnb17 := NBz1_z2.out
    have hnc17 := NBz2_z1.out
    have hcz18_0 : wc.cell? ⟨gbz1, 0, none⟩ = some (.string a0_0) := (blk_cell BKz1.out 0).trans rfl
    have hcz18_1 : wc.cell? ⟨gbz1, 1, none⟩ = some (.int .i64 a0_1) := (blk_cell BKz1.out 1).trans rfl
    have hfz18_0 := blk_frozen BKz1.out 0
    have hfz18_1 := blk_frozen BKz1.out 1
    try go_wp2_with (first | ((with_reducible refine gate_callee (f := 18) rfl ?_); refine goesL_ (some 18) rfl rfl Try.func18 (by kernel_rfl) rfl #[.agg #[.string a0_0, .int .i64 a0_1]] rfl (by (try simp only [List.map_toArray, List.map_cons, List.map_nil]); first | done | rfl | (simp only [List.length_drop, List.length_take]; rfl)) ?_; (with_reducible refine (tape_Left.calls a0_0 a0_1 tz4 _ A15.out).mono ?_); rintro e w19 ⟨rfl, hb⟩; refine ⟨_, rfl, ?_⟩; have n0_ := am (blk_below (pk BKz1) hb); have n1_ := am (blk_below (g := gbz2) (o := .cells #[.string (⟨#[]⟩ : ByteArray), .int .i64 0] 23 (0, 0)) (pk BKz2) hb); have n2_ := am (below_step (by repeat (first | (with_reducible first | exact HB.out | apply below_alloc | apply pw_below_drewN | apply below_drew1 | refine below_set ?_ GEz1.out | refine below_set ?_ GEz2.out) | exact HB.out)) hb); clear BKz1; clear BKz2; clear HB; have BKz1 := n0_; have BKz2 := n1_; have HB := n2_; clear n0_ n1_ n2_; (try clear hb); (try clear hb2); (try clear hk); (try clear hi)))
    have n0_ := am (blk_drew BKz1.out)
    have n1_ := am (blk_drew BKz2.out)
    have n2_ := am (below_drew1 HB.out)
    clear BKz1 BKz2 HB; have BKz1 := n0_; have BKz2 := n1_; have HB := n2_; clear n0_ n1_ n2_
    refine start_ (n := 4) (S := fun w' => w'.cell? ⟨gbz1, 0, none⟩ = some (.string a0_0) ∧ w'.cell? ⟨gbz1, 1, none⟩ = some (.int .i64 a0_1)) (ds := []) #[false, false, false, false] (by kernel_rfl) rfl rfl (bc2 BKz1) (fun hHeld => ?_)
    generalize w19.drew = w20 at BKz1 BKz2 HB hHeld ⊢
    refine pure_ (i := 1) (N := some 4) (v := ?_) (a' := ?_) #[false, true, false, false] rfl rfl (by kernel_rfl) (fun _ _ _ h => h) (Or.inl ⟨by rfl, ?_⟩) ?_ ?_
    rotate_left
    ·intro w'
     go_simp
     with_reducible rfl
    rotate_left
    ·simp only [Act.put, List.setIfInBounds_toArray, List.set_cons_zero, List.set_cons_succ, i64_w, i32_w]
     rfl
    refine take_ (i := 0) (N := some 20) (v := ?_) (a' := ?_) #[true, true, false, false] rfl rfl (by kernel_rfl) (fun _ _ _ h => h) (Or.inl ⟨by rfl, ?_⟩) hHeld ?_ ?_
    rotate_left
    ·rintro w' ⟨s0, s1⟩
     go_simp
     with_reducible rfl
    rotate_left
    ·simp only [Act.put, List.setIfInBounds_toArray, List.set_cons_zero, List.set_cons_succ, i64_w, i32_w]
     rfl
    refine one_ (i := 2) (N := none) #[true, true, true, false] rfl rfl (by kernel_rfl) (by decide) (fun K hK => ?_)
    have hs21 : w20.cell? ⟨gbz2, 0, none⟩ = some (.string (⟨#[]⟩ : ByteArray)) := (blk_cell BKz2.out 0).trans rfl
    have hfs21 := blk_frozen BKz2.out 0
    have hns21_0 := NBz1_z2.out
    have hms21_0 := NBz2_z1.out
    have hs22 : w20.cell? ⟨gbz2, 1, none⟩ = some (.int .i64 0) := (blk_cell BKz2.out 1).trans rfl
    have hfs22 := blk_frozen BKz2.out 1
    have hns22_0 := NBz1_z2.out
    have hms22_0 := NBz2_z1.out
    refine skip_ (by rfl) rfl (by go_simp; rfl) ?_
    refine hK.out _ _ ⟨((cell_far (p := ⟨gbz2, _, none⟩) NBz1_z2.out _).trans (((cell_far (p := ⟨gbz2, _, none⟩) NBz1_z2.out _).trans (hHeld.1)))), ((cell_far (p := ⟨gbz2, _, none⟩) NBz1_z2.out _).trans (((cell_far (p := ⟨gbz2, _, none⟩) NBz1_z2.out _).trans (hHeld.2))))⟩ (fun hHeld => ?_)
    clear hK K
    refine pure_ (i := 3) (N := some 6) (v := ?_) (a' := ?_) #[true, true, true, true] rfl rfl (by kernel_rfl) (fun _ _ _ h => h) (Or.inl ⟨by rfl, ?_⟩) ?_ ?_
    rotate_left
    ·intro w'
     go_simp
     with_reducible rfl
    rotate_left
    ·simp only [Act.put, List.setIfInBounds_toArray, List.set_cons_zero, List.set_cons_succ, i64_w, i32_w]
     rfl
    refine done_ (by kernel_rfl) ?_
    try go_wp2
    refine bodyPost_ret (results_list (rs := [.tmp 4, .cell 5 23, .tmp 6]) rfl (by simp) (.tmp (.cell gbz2 23 #[.string a0_0, .int .i64 a0_1] (0, 0) _ rfl (by (with_reducible repeat (first | refine blk_drewN ?_ _ | refine blk_drew ?_ | refine blk_alloc ?_ _)); refine blk_put (cs := #[.string a0_0, .int .i64 0]) ?_ 1 _ rfl; (with_reducible repeat (first | refine blk_drewN ?_ _ | refine blk_drew ?_ | refine blk_alloc ?_ _)); refine blk_put (cs := #[.string (⟨#[]⟩ : ByteArray), .int .i64 0]) ?_ 0 _ rfl; (with_reducible repeat (first | refine blk_drewN ?_ _ | refine blk_drew ?_ | refine blk_alloc ?_ _)); exact BKz2.out) Try.underlying23 rfl (by kernel_rfl) (.tmp .nil)))) rfl ?_
    exact ⟨by first | rfl | (simp [errW_none, errW_some] <;> rfl) | (simp [*, errW_none, errW_some] <;> rfl), by repeat (first | (with_reducible first | exact HB.out | apply below_alloc | apply pw_below_drewN | apply below_drew1 | refine below_set ?_ GEz1.out | refine below_set ?_ GEz2.out) | exact HB.out)⟩
   rw [if_neg c16] at H
   have c16b0 : decide (tz4 < a1) = false := decide_eq_false c16
   clear c16
   by_cases c23 : 0 ≤ a0_1
   rotate_left
   ·rw [if_neg c23] at H
    exact absurd H (by simp)
   rw [if_pos c23] at H
   have c23b0 := eq_true c23
   have c23b1 : decide (0 ≤ a0_1) = true := decide_eq_true c23
   clear c23
   by_cases c24 : a0_1 ≤ (a0_0.size : Int)
   rotate_left
   ·rw [if_neg c24] at H
    exact absurd H (by simp)
   rw [if_pos c24] at H
   have c24b0 := eq_true c24
   have c24b1 : decide (a0_1 ≤ (a0_0.size : Int)) = true := decide_eq_true c24
   clear c24
   obtain ⟨sx25, hsx25⟩ : ∃ s_ : ByteArray, (a0_0.extract (a0_1 : Int).toNat a0_0.size) = s_ := ⟨_, rfl⟩
   replace H : (if 0 ≤ a1 then (if a1 ≤ ((sx25).size : Int) then (some ((sx25).extract 0 (a1 : Int).toNat, a0_0, wrap64 (a0_1 + a1), 0)) else (none)) else (none)) = some (r1, r2, r3, r4) := by first | (rw [hsx25] at H; exact H) | (simp only [hsx25] at H ⊢; exact H) | exact H
   by_cases c26 : 0 ≤ a1
   rotate_left
   ·rw [if_neg c26] at H
    exact absurd H (by simp)
   rw [if_pos c26] at H
   have c26b0 := eq_true c26
   have c26b1 : decide (0 ≤ a1) = true := decide_eq_true c26
   clear c26
   by_cases c27 : a1 ≤ ((sx25).size : Int)
   rotate_left
   ·rw [if_neg c27] at H
    exact absurd H (by simp)
   rw [if_pos c27] at H
   have c27b0 := eq_true c27
   have c27b1 : decide (a1 ≤ ((sx25).size : Int)) = true := decide_eq_true c27
   clear c27
   obtain ⟨sx28, hsx28⟩ : ∃ s_ : ByteArray, ((sx25).extract 0 (a1 : Int).toNat) = s_ := ⟨_, rfl⟩
   replace H : (some (sx28, a0_0, wrap64 (a0_1 + a1), 0)) = some (r1, r2, r3, r4) := by first | (rw [hsx28] at H; exact H) | (simp only [hsx28] at H ⊢; exact H) | exact H
   simp only [Option.some.injEq, Prod.mk.injEq] at H
   obtain ⟨rfl, rfl, rfl, rfl⟩ := H
   have hnb29 := NBz1_z2.out
   have hnc29 := NBz2_z1.out
   have hcz30_0 : wc.cell? ⟨gbz1, 0, none⟩ = some (.string a0_0) := (blk_cell BKz1.out 0).trans rfl
   have hcz30_1 : wc.cell? ⟨gbz1, 1, none⟩ = some (.int .i64 a0_1) := (blk_cell BKz1.out 1).trans rfl
   have hfz30_0 := blk_frozen BKz1.out 0
   have hfz30_1 := blk_frozen BKz1.out 1
   try go_wp2_with (first | ((with_reducible refine gate_callee (f := 18) rfl ?_); refine goesL_ (some 18) rfl rfl Try.func18 (by kernel_rfl) rfl #[.agg #[.string a0_0, .int .i64 a0_1]] rfl (by (try simp only [List.map_toArray, List.map_cons, List.map_nil]); first | done | rfl | (simp only [List.length_drop, List.length_take]; rfl)) ?_; (with_reducible refine (tape_Left.calls a0_0 a0_1 tz4 _ A15.out).mono ?_); rintro e w31 ⟨rfl, hb⟩; refine ⟨_, rfl, ?_⟩; have n0_ := am (blk_below (pk BKz1) hb); have n1_ := am (blk_below (g := gbz2) (o := .cells #[.string (⟨#[]⟩ : ByteArray), .int .i64 0] 23 (0, 0)) (pk BKz2) hb); have n2_ := am (below_step (by repeat (first | (with_reducible first | exact HB.out | apply below_alloc | apply pw_below_drewN | apply below_drew1 | refine below_set ?_ GEz1.out | refine below_set ?_ GEz2.out) | exact HB.out)) hb); clear BKz1; clear BKz2; clear HB; have BKz1 := n0_; have BKz2 := n1_; have HB := n2_; clear n0_ n1_ n2_; (try clear hb); (try clear hb2); (try clear hk); (try clear hi); have hcz32_0 : w31.cell? ⟨gbz1, 0, none⟩ = some (.string a0_0) := (blk_cell BKz1.out 0).trans rfl; have hcz32_1 : w31.cell? ⟨gbz1, 1, none⟩ = some (.int .i64 a0_1) := (blk_cell BKz1.out 1).trans rfl; have hfz32_0 := blk_frozen BKz1.out 0; have hfz32_1 := blk_frozen BKz1.out 1))
   have n0_ : Aside0 ((w31.setCell ⟨gbz1, 1, none⟩ (.int .i64 (wrap64 (a0_1 + a1)))).heap[gbz1]? = some (.cells #[.string a0_0, .int .i64 (wrap64 (a0_1 + a1))] 23 (0, 0))) := ⟨by (with_reducible repeat (first | refine blk_drewN ?_ _ | refine blk_drew ?_ | refine blk_alloc ?_ _)); refine blk_put (cs := #[.string a0_0, .int .i64 a0_1]) ?_ 1 _ rfl; (with_reducible repeat (first | refine blk_drewN ?_ _ | refine blk_drew ?_ | refine blk_alloc ?_ _)); exact BKz1.out⟩
   have n1_ : Aside0 ((w31.setCell ⟨gbz1, 1, none⟩ (.int .i64 (wrap64 (a0_1 + a1)))).heap[gbz2]? = some (.cells #[.string (⟨#[]⟩ : ByteArray), .int .i64 0] 23 (0, 0))) := ⟨by (with_reducible repeat (first | refine blk_drewN ?_ _ | refine blk_drew ?_ | refine blk_alloc ?_ _)); refine blk_far ?_ NBz2_z1.out _; (with_reducible repeat (first | refine blk_drewN ?_ _ | refine blk_drew ?_ | refine blk_alloc ?_ _)); exact BKz2.out⟩
   have n2_ : Aside0 (Below w.heap.size w (w31.setCell ⟨gbz1, 1, none⟩ (.int .i64 (wrap64 (a0_1 + a1))))) := ⟨by repeat (first | (with_reducible first | exact HB.out | apply below_alloc | apply pw_below_drewN | apply below_drew1 | refine below_set ?_ GEz1.out | refine below_set ?_ GEz2.out) | exact HB.out)⟩
   (try clear BKz1); (try clear BKz2); (try clear HB)
   generalize (w31.setCell ⟨gbz1, 1, none⟩ (.int .i64 (wrap64 (a0_1 + a1)))) = w33 at n0_ n1_ n2_ ⊢
   have BKz1 := n0_; have BKz2 := n1_; have HB := n2_; clear n0_ n1_ n2_
   have n0_ := am (blk_drew BKz1.out)
   have n1_ := am (blk_drew BKz2.out)
   have n2_ := am (below_drew1 HB.out)
   clear BKz1 BKz2 HB; have BKz1 := n0_; have BKz2 := n1_; have HB := n2_; clear n0_ n1_ n2_
   refine start_ (n := 5) (S := fun w' => w'.cell? ⟨gbz1, 0, none⟩ = some (.string a0_0) ∧ w'.cell? ⟨gbz1, 1, none⟩ = some (.int .i64 (wrap64 (a0_1 + a1)))) (ds := []) #[false, false, false, false, false] (by kernel_rfl) rfl rfl (bc2 BKz1) (fun hHeld => ?_)
   generalize w33.drew = w34 at BKz1 BKz2 HB hHeld ⊢
   refine pure_ (i := 0) (N := some 33) (v := ?_) (a' := ?_) #[true, false, false, false, false] rfl rfl (by kernel_rfl) (fun _ _ _ h => h) (Or.inl ⟨by rfl, ?_⟩) ?_ ?_
   rotate_left
   ·intro w'
    go_simp
    with_reducible rfl
   rotate_left
   ·simp only [Act.put, List.setIfInBounds_toArray, List.set_cons_zero, List.set_cons_succ, i64_w, i32_w]
    rfl
   refine pure_ (i := 2) (N := some 4) (v := ?_) (a' := ?_) #[true, false, true, false, false] rfl rfl (by kernel_rfl) (fun _ _ _ h => h) (Or.inl ⟨by rfl, ?_⟩) ?_ ?_
   rotate_left
   ·intro w'
    go_simp
    with_reducible rfl
   rotate_left
   ·simp only [Act.put, List.setIfInBounds_toArray, List.set_cons_zero, List.set_cons_succ, i64_w, i32_w]
    rfl
   refine take_ (i := 1) (N := some 34) (v := ?_) (a' := ?_) #[true, true, true, false, false] rfl rfl (by kernel_rfl) (fun _ _ _ h => h) (Or.inl ⟨by rfl, ?_⟩) hHeld ?_ ?_
   rotate_left
   ·rintro w' ⟨s0, s1⟩
    go_simp
    with_reducible rfl
   rotate_left
   ·simp only [Act.put, List.setIfInBounds_toArray, List.set_cons_zero, List.set_cons_succ, i64_w, i32_w]
    rfl
   refine one_ (i := 3) (N := none) #[true, true, true, true, false] rfl rfl (by kernel_rfl) (by decide) (fun K hK => ?_)
   have hs35 : w34.cell? ⟨gbz2, 0, none⟩ = some (.string (⟨#[]⟩ : ByteArray)) := (blk_cell BKz2.out 0).trans rfl
   have hfs35 := blk_frozen BKz2.out 0
   have hns35_0 := NBz1_z2.out
   have hms35_0 := NBz2_z1.out
   have hs36 : w34.cell? ⟨gbz2, 1, none⟩ = some (.int .i64 0) := (blk_cell BKz2.out 1).trans rfl
   have hfs36 := blk_frozen BKz2.out 1
   have hns36_0 := NBz1_z2.out
   have hms36_0 := NBz2_z1.out
   refine skip_ (by rfl) rfl (by go_simp; rfl) ?_
   refine hK.out _ _ ⟨((cell_far (p := ⟨gbz2, _, none⟩) NBz1_z2.out _).trans (((cell_far (p := ⟨gbz2, _, none⟩) NBz1_z2.out _).trans (hHeld.1)))), ((cell_far (p := ⟨gbz2, _, none⟩) NBz1_z2.out _).trans (((cell_far (p := ⟨gbz2, _, none⟩) NBz1_z2.out _).trans (hHeld.2))))⟩ (fun hHeld => ?_)
   clear hK K
   refine pure_ (i := 4) (N := some 6) (v := ?_) (a' := ?_) #[true, true, true, true, true] rfl rfl (by kernel_rfl) (fun _ _ _ h => h) (Or.inl ⟨by rfl, ?_⟩) ?_ ?_
   rotate_left
   ·intro w'
    go_simp
    with_reducible rfl
   rotate_left
   ·simp only [Act.put, List.setIfInBounds_toArray, List.set_cons_zero, List.set_cons_succ, i64_w, i32_w]
    rfl
   refine done_ (by kernel_rfl) ?_
   try go_wp2
   refine bodyPost_ret (results_list (rs := [.tmp 4, .cell 5 23, .tmp 6]) rfl (by simp) (.tmp (.cell gbz2 23 #[.string a0_0, .int .i64 (wrap64 (a0_1 + a1))] (0, 0) _ rfl (by (with_reducible repeat (first | refine blk_drewN ?_ _ | refine blk_drew ?_ | refine blk_alloc ?_ _)); refine blk_put (cs := #[.string a0_0, .int .i64 0]) ?_ 1 _ rfl; (with_reducible repeat (first | refine blk_drewN ?_ _ | refine blk_drew ?_ | refine blk_alloc ?_ _)); refine blk_put (cs := #[.string (⟨#[]⟩ : ByteArray), .int .i64 0]) ?_ 0 _ rfl; (with_reducible repeat (first | refine blk_drewN ?_ _ | refine blk_drew ?_ | refine blk_alloc ?_ _)); exact BKz2.out) Try.underlying23 rfl (by kernel_rfl) (.tmp .nil)))) rfl ?_
   exact ⟨by first | rfl | (simp [errW_none, errW_some] <;> rfl) | (simp only [← hsx25, ← hsx28]; first | rfl | (simp [errW_none, errW_some] <;> rfl)) | (simp [*, errW_none, errW_some] <;> rfl), by repeat (first | (with_reducible first | exact HB.out | apply below_alloc | apply pw_below_drewN | apply below_drew1 | refine below_set ?_ GEz1.out | refine below_set ?_ GEz2.out) | exact HB.out)⟩
end Go.Proofs.Ytmkncddbecmlpaa.Pr
end
section
set_option linter.unusedVariables false
namespace Go.Proofs.Ytmkncddbecmlpaa.XB
open Go.RowKit Go.Shelf Go.Proofs.YtmkncddbecmlpaaW.PrintWords
theorem blk_same {w w1 : World} {g : Nat} {o : Obj} (h : w.heap[g]? = some o) (hb : Below w.heap.size w w1) : w1.heap[g]? = some o := (hb.block g (blk_lt h)).trans h
variable {P : Program}
theorem run_loadVar_one (w : World) (g : Nat) (t ty : TypeId) (v : Value) (fr : Nat × Nat) (d : TypeDesc) (hg : w.heap[g]? = some (.cells #[v] t fr))
    (hu : P.underlying ty = some d) (hd : (match d with | .struct _ | .array _ _ => true | _ => false) = false) :
    (loadVar ty ⟨g, 0, none⟩).run P w = .ok v w := by
  have hc : w.cell? ⟨g, 0, none⟩ = some v := by rw [cell_of_row w g 0 #[v] t fr hg]; rfl
  have ha : (isAgg ty).run P w = .ok false w := by
    simp only [isAgg, Sem.run_bind, run_underlying hu, Result.andThen_ok]
    cases d <;> simp_all
  simp only [loadVar, Sem.run_bind, ha, Result.andThen_ok]
  simp [go_sem, hc]
end Go.Proofs.Ytmkncddbecmlpaa.XB
namespace Go.Proofs.Ytmkncddbecmlpaa.XB
open Go.RowKit Go.Shelf Go.Proofs.YtmkncddbecmlpaaW.PrintWords
variable {F : Fence} {n : Nat} {P : Program}
def IterSeq (F : Fence) (n : Nat) (P : Program) (g : Nat) (lb : Array Value) (vals : Nat → Array Value) (N : Nat) (Start : World → Prop) (Tch Kp : World → World → Prop) : Prop :=
  ∀ (l : Nat) (J Jx : Nat → World → Prop) (W : World), Start W → (∀ k A B, J k A → Tch A B → J k B) → (∀ k A B, Jx k A → Tch A B → Jx k B) →
    (∀ k W1, J k W1 → k < N → YieldAt F (n - 1) P l (vals k) W1 fun e W' =>
      (e = .returned (.bool true) ∧ J (k + 1) W' ∧ Kp W1 W') ∨ (e = .returned (.bool false) ∧ Jx (k + 1) W')) →
    J 0 W →
    CallsIn F n P g (#[.func (.yield l) #[] #[]] ++ lb) W fun e W' => (∃ v, e = .returned v) ∧ (J N W' ∨ (∃ k, k ≤ N ∧ Jx k W'))
def seqPost (B : Nat) (Kp : World → World → Prop) (I : Nat → World → Prop) (Ix : Code → Nat → World → Prop) (k : Nat) (W : World) : Exit → Act → World → Prop
  | .normal, _, W' => KeepsFrom B W W' ∧ Kp W W' ∧ I k W'
  | .ret, _, W' => KeepsFrom B W W' ∧ Ix .ret k W'
  | .exit id, _, W' => KeepsFrom B W W' ∧ Ix (.exit id) k W'
  | .goto t, _, W' => KeepsFrom B W W' ∧ Ix (.goto t) k W'
  | .panic _, _, _ => False
  | .outgrown, _, _ => False
def OwnW (B : Nat) (I : World → Prop) : Prop := ∀ W W' row, I W → W.grownBy W' row → (∀ r, row = some r → B ≤ r ∧ ∃ o : Obj, W.heap[r]? = some o ∧ o.isCells = false) → I W'
theorem OwnW.putObj {B : Nat} {I : World → Prop} (h : OwnW B I) {W : World} {l : Nat} {o : Obj} (o' : Obj) (hs : I W) (hB : B ≤ l) (hl : W.heap[l]? = some o) (ho : o.isCells = false) : I (W.putObj l o') :=
  h W _ (some l) hs (grownBy_putObj' W l o') (fun r e => by cases e; exact ⟨hB, _, hl, ho⟩)
theorem OwnW.alloc {B : Nat} {I : World → Prop} (h : OwnW B I) {W : World} (o : Obj) (hs : I W) : I (W.alloc o) :=
  h W _ none hs (World.grownBy_alloc W o none) (fun r e => by cases e)
theorem OwnW.and {B : Nat} {I J : World → Prop} (h : OwnW B I) (h' : OwnW B J) : OwnW B (fun W => I W ∧ J W) := fun W W' row hs hg hr => ⟨h W W' row hs.1 hg hr, h' W W' row hs.2 hg hr⟩
theorem OwnW.pure {B : Nat} (p : Prop) : OwnW B (fun _ => p) := fun _ _ _ h _ _ => h
theorem OwnW.blk {B : Nat} (g : Nat) (cs : Array Value) (t : TypeId) (fr : Nat × Nat) : OwnW B (fun W => W.heap[g]? = some (.cells cs t fr)) := fun W W' row h hg hr => blk_grown h hg (fun e => by
  obtain ⟨_, o, ho, hc⟩ := hr g e.symm
  rw [h] at ho
  cases ho
  cases hc)
theorem OwnW.below {n₀ B : Nat} {w₀ : World} (hn : n₀ ≤ w₀.heap.size) (hB : n₀ ≤ B) : OwnW B (fun W => Below n₀ w₀ W) :=
  fun W W' row h hg hr => h.grown hg (Nat.le_trans hn h.size) (fun k e => Nat.le_trans hB (hr k e).1)
theorem OwnW.row {α : Type} {B : Nat} (d : Kd α) (e base : Nat) (ok : Nat → Prop) (v : Value) (xs : List α) : OwnW B (fun W => d.R e W base ok v xs) := fun W W' row h hg hr => by
  refine Kd.R_mono (Kd.R_grown (Kd.R_bound h) hg (fun k hk => ?_)) (fun _ hk => hk.1)
  rintro rfl
  obtain ⟨_, o, ho, hc⟩ := hr k rfl
  obtain ⟨_, _, _, q, _, cells, hcc⟩ := hk
  rw [hcc] at ho
  cases ho
  cases hc
theorem wpIn_rangeFunc_seq {g : Operand} {ps : Array Tmp} {assign body : Code} {Q : Exit → Act → World → Prop} {a : Act} {w : World}
    (hro : F.round = none) (h1 : 1 ≤ n) {gf : Nat} {lb : Array Value} (hg : a.eval g = .func (.func gf) #[] lb) (hFg : F.fn gf) (eg : ∀ args w, (callFunc gf args).run P w = .ok (.enter gf args) w)
    {vals : Nat → Array Value} {N : Nat} {Start : World → Prop} {Tch Kp : World → World → Prop} (hseq : IterSeq F (n - 1) P gf lb vals N Start Tch Kp)
    (hStart : OwnW w.heap.size Start) (hs0 : Start w) (hT : ∀ A B, Tch A B → KeepsFrom w.heap.size A B)
    (hKt : ∀ {A B C : World}, Kp A B → Kp B C → Kp A C) (hKb : ∀ (W : World) (l : Nat) (o o' : Obj), w.heap.size ≤ l → W.heap[l]? = some o → o.isCells = false → Kp W (W.putObj l o')) (hps : ∀ k, (vals k).size = ps.size)
    (I : Nat → World → Prop) (Ix : Code → Nat → World → Prop) (hI : ∀ k, OwnW w.heap.size (I k)) (hIx : ∀ c k, OwnW w.heap.size (Ix c k))
    (hIT : ∀ k A B, I k A → Tch A B → I k B) (hIxT : ∀ c k A B, Ix c k A → Tch A B → Ix c k B) (h0 : I 0 w) (a₁ : Nat → Act)
    (hassign : ∀ (l k : Nat) (W : World) (K : Act → World → Prop), K (a₁ k) W →
      assign.wpIn (F.inRound l) (n - 1 - 1) P (Exit.then K (fun _ _ _ => False)) { tmps := (ps.zip (vals k)).foldl (fun t (p, v) => t.setIfInBounds p v) a.tmps, defers := [] } W)
    (hbody : ∀ (l k : Nat) (W : World), I k W → k < N → body.wpIn (F.inRound l) (n - 1 - 1) P (seqPost w.heap.size Kp I Ix (k + 1) W) (a₁ k) W)
    (hdone : ∀ (D : Nat) (W : World), w.heap.size ≤ D → I N W → W.heap[D]? = some (.deferred (some [])) → Q .normal { a with defers := { target := .collected D, args := #[] } :: a.defers } W)
    (hstop : ∀ (D : Nat) (c : Code) (k : Nat) (W : World), w.heap.size ≤ D → k ≤ N → Ix c k W → W.heap[D]? = some (.deferred (some [])) → c.wpIn F n P Q { a with defers := { target := .collected D, args := #[] } :: a.defers } W) :
    (Code.rangeFunc g ps assign body).wpIn F n P Q a w := by
  refine wpIn_rangeFunc ?_
  intro fn hfn
  rw [hro]
  obtain ⟨rec, hrec⟩ : ∃ rec : LoopState → Option Code → Loop, rec = fun st pe => { state := st, pending := pe, fn, tmps := a.tmps, params := ps, assign, body, defers := w.heap.size } := ⟨_, rfl⟩
  obtain ⟨W1, hW1⟩ : ∃ W1, (w.alloc (.deferred (some []))).alloc (.loop (rec .ready none)) = W1 := ⟨_, rfl⟩
  have hL1 : W1.heap[w.heap.size + 1]? = some (.loop (rec .ready none)) := by
    rw [← hW1]; have := World.alloc_heap_new (w.alloc (.deferred (some []))) (.loop (rec .ready none)); rwa [World.size_alloc] at this
  have hK1 : W1.heap[w.heap.size]? = some (.deferred (some [])) := by
    rw [← hW1]; exact (Below.heap_alloc _ _ _ (by simp)).trans (World.alloc_heap_new w _)
  have hI1 : I 0 W1 := by rw [← hW1]; exact (hI 0).alloc _ ((hI 0).alloc _ h0)
  have hS1 : Start W1 := by rw [← hW1]; exact hStart.alloc _ (hStart.alloc _ hs0)
  refine ⟨w.heap.size + 1, [{ target := .collected w.heap.size, args := #[] }], W1, { target := .fn (.func gf) lb, args := #[.func (.yield (w.heap.size + 1)) #[] #[]] }, W1, gf,
    #[.func (.yield (w.heap.size + 1)) #[] #[]] ++ lb, W1, ?_, ?_, ?_, ?_, fun _ => h1, ?_⟩
  · rw [← hW1, hrec]; exact run_enterLoop_outer _ _ _ _ _
  · simp only [resolve, hg]
    simp [go_sem]
  · intro f' hf'; simp [Target.leads] at hf'; subst hf'; exact hFg
  · simp [invoke, go_sem, eg]
  · refine (hseq (w.heap.size + 1)
      (fun k W => I k W ∧ W.heap[w.heap.size + 1]? = some (.loop (rec .ready none)) ∧ W.heap[w.heap.size]? = some (.deferred (some [])))
      (fun k W => ∃ c, Ix c k W ∧ W.heap[w.heap.size + 1]? = some (.loop (rec .done (some c))) ∧ W.heap[w.heap.size]? = some (.deferred (some [])))
      W1 hS1
      (fun k A B hs ht => ⟨hIT k A B hs.1 ht, (hT A B ht).same _ _ (by omega) hs.2.1 rfl, (hT A B ht).same _ _ (Nat.le_refl _) hs.2.2 rfl⟩)
      (fun k A B hs ht => by
        obtain ⟨c, hc, hl, hk⟩ := hs
        exact ⟨c, hIxT c k A B hc ht, (hT A B ht).same _ _ (by omega) hl rfl, (hT A B ht).same _ _ (Nat.le_refl _) hk rfl⟩)
      ?_ ⟨hI1, hL1, hK1⟩).mono ?_
    · rintro k W ⟨hi, hl, hk⟩ hlen
      have hlt : w.heap.size + 1 < W.heap.size := (Array.getElem?_eq_some_iff.1 hl).1
      have hy := run_yield (P := P) (args := vals k) hl (by rw [hrec]; exact hps k)
      rw [hrec] at hy
      refine ⟨fn, _, assign, body, hy, roundIn_of_wpIn hfn (hassign _ k W _ ⟨_, run_beginRound hl (by rw [hrec]), ?_⟩)⟩
      have hl2 : (W.putObj (w.heap.size + 1) (.loop { rec .ready none with state := .busy })).heap[w.heap.size + 1]? = some (.loop { rec .ready none with state := .busy }) := World.putObj_heap_same hlt
      have hk2 : (W.putObj (w.heap.size + 1) (.loop { rec .ready none with state := .busy })).heap[w.heap.size]? = some (.deferred (some [])) := (World.putObj_heap_other (by omega)).trans hk
      have hw2 : Kp W (W.putObj (w.heap.size + 1) (.loop { rec .ready none with state := .busy })) := hKb _ _ _ _ (by omega) hl rfl
      refine wpIn_mono (hbody _ k _ ((hI k).putObj _ hi (by omega) hl rfl) hlen) ?_
      have fin : ∀ (jump : Option Code) (W3 : World), KeepsFrom w.heap.size (W.putObj (w.heap.size + 1) (.loop { rec .ready none with state := .busy })) W3 →
          (Instr.endRound (w.heap.size + 1) jump).run P W3 = .ok (.bool jump.isNone) (W3.putObj (w.heap.size + 1) (.loop (rec (if jump.isNone then .ready else .done) jump))) ∧
          W3.heap[w.heap.size + 1]? = some (.loop { rec .ready none with state := .busy }) ∧
          (W3.putObj (w.heap.size + 1) (.loop (rec (if jump.isNone then .ready else .done) jump))).heap[w.heap.size + 1]? = some (.loop (rec (if jump.isNone then .ready else .done) jump)) ∧
          (W3.putObj (w.heap.size + 1) (.loop (rec (if jump.isNone then .ready else .done) jump))).heap[w.heap.size]? = some (.deferred (some [])) := fun jump W3 hk3 => by
        have hl3 := hk3.same _ _ (by omega) hl2 rfl
        have := run_endRound (P := P) jump hl3
        rw [hrec] at this ⊢
        exact ⟨this, by rw [hrec] at hl3; exact hl3, World.putObj_heap_same (Array.getElem?_eq_some_iff.1 hl3).1, (World.putObj_heap_other (by omega)).trans (hk3.same _ _ (Nat.le_refl _) hk2 rfl)⟩
      rintro e a3 W3 hp
      cases e with
      | normal =>
        obtain ⟨hk3, hkp3, hi3⟩ := hp
        obtain ⟨hr, hl3, hl4, hk4⟩ := fin none W3 hk3
        exact ⟨_, _, hr, .inl ⟨rfl, ⟨(hI _).putObj _ hi3 (by omega) hl3 rfl, hl4, hk4⟩, hKt (hKt hw2 hkp3) (hKb _ _ _ _ (by omega) hl3 rfl)⟩⟩
      | ret =>
        obtain ⟨hk3, hi3⟩ := hp
        obtain ⟨hr, hl3, hl4, hk4⟩ := fin (some .ret) W3 hk3
        exact ⟨_, _, hr, .inr ⟨rfl, .ret, (hIx _ _).putObj _ hi3 (by omega) hl3 rfl, hl4, hk4⟩⟩
      | exit id =>
        obtain ⟨hk3, hi3⟩ := hp
        obtain ⟨hr, hl3, hl4, hk4⟩ := fin (some (.exit id)) W3 hk3
        exact ⟨_, _, hr, .inr ⟨rfl, .exit id, (hIx _ _).putObj _ hi3 (by omega) hl3 rfl, hl4, hk4⟩⟩
      | goto t =>
        obtain ⟨hk3, hi3⟩ := hp
        obtain ⟨hr, hl3, hl4, hk4⟩ := fin (some (.goto t)) W3 hk3
        exact ⟨_, _, hr, .inr ⟨rfl, .goto t, (hIx _ _).putObj _ hi3 (by omega) hl3 rfl, hl4, hk4⟩⟩
      | panic ch => exact hp.elim
      | outgrown => exact hp.elim
    · rintro e W2 ⟨⟨v, rfl⟩, (⟨hi, hl, hk⟩ | ⟨k, hkN, c, hi, hl, hk⟩)⟩
      · exact ⟨none, _, by have := run_endLoop (P := P) hl (by rw [hrec]; simp); rw [hrec] at this; exact this, hdone _ _ (Nat.le_refl _) ((hI _).putObj _ hi (by omega) hl rfl) ((World.putObj_heap_other (by omega)).trans hk)⟩
      · exact ⟨some c, _, by have := run_endLoop (P := P) hl (by rw [hrec]; simp); rw [hrec] at this; exact this, hstop _ c k _ (Nat.le_refl _) hkN ((hIx c k).putObj _ hi (by omega) hl rfl) ((World.putObj_heap_other (by omega)).trans hk)⟩
end Go.Proofs.Ytmkncddbecmlpaa.XB
namespace Go.Proofs.Ytmkncddbecmlpaa.XB
open Go.RowKit Go.Shelf Go.Proofs.YtmkncddbecmlpaaW.PrintWords
inductive ValsX (P : Program) (tmps : Array Value) (w : World) : List ResultVar → List Value → Prop where
  | nil : ValsX P tmps w [] []
  | tmp {u : Tmp} {rs : List ResultVar} {vs : List Value} (h : ValsX P tmps w rs vs) : ValsX P tmps w (.tmp u :: rs) (tmps.getD u undef :: vs)
  | cell {p : Tmp} {ty : TypeId} {rs : List ResultVar} {vs : List Value} (g : Nat) (t : TypeId) (cs : Array Value) (fr : Nat × Nat) (d : TypeDesc)
      (hp : tmps.getD p undef = .pointer (some ⟨g, 0, none⟩)) (hg : w.heap[g]? = some (.cells cs t fr))
      (hu : P.underlying ty = some d) (hd : (match d with | .struct _ | .array _ _ => true | _ => false) = true) (hi : (P.info? ty).map (·.size) = some cs.size)
      (h : ValsX P tmps w rs vs) : ValsX P tmps w (.cell p ty :: rs) (.agg cs :: vs)
  | one {p : Tmp} {ty : TypeId} {rs : List ResultVar} {vs : List Value} (g : Nat) (t : TypeId) (v : Value) (fr : Nat × Nat) (d : TypeDesc)
      (hp : tmps.getD p undef = .pointer (some ⟨g, 0, none⟩)) (hg : w.heap[g]? = some (.cells #[v] t fr))
      (hu : P.underlying ty = some d) (hd : (match d with | .struct _ | .array _ _ => true | _ => false) = false)
      (h : ValsX P tmps w rs vs) : ValsX P tmps w (.cell p ty :: rs) (v :: vs)
section
variable {P : Program} {tmps : Array Value} {w : World}
theorem valsX_run {rs : List ResultVar} {vs : List Value} (hv : ValsX P tmps w rs vs) (f : ResultVar → Sem Value) (hf : ∀ u, f (.tmp u) = pure (tmps.getD u undef)) (hc : ∀ a t, f (.cell a t) = (do loadVar t (← asAddr (tmps.getD a undef)))) :
    (rs.mapM f).run P w = .ok vs w := by
  induction hv with
  | nil => simp
  | tmp h ih => simp [List.mapM_cons, hf, ih]
  | cell g t cs fr d hp hg hu hd hi h ih =>
    rw [List.mapM_cons, hc, hp]
    simp [asAddr, run_loadVar_row w g t _ cs fr d hg hu hd hi, ih]
  | one g t v fr d hp hg hu hd h ih =>
    rw [List.mapM_cons, hc, hp]
    simp [asAddr, run_loadVar_one w g t _ v fr d hg hu hd, ih]
theorem resultsX_list {fn : Func} {rs : List ResultVar} {vs : List Value} (h : fn.results = rs.toArray) (hl : vs.length ≠ 1) (hv : ValsX P tmps w rs vs) : (results fn tmps).run P w = .ok (.tuple vs.toArray) w := by
  unfold results
  rw [h, List.mapM_toArray]
  simp only [Sem.run_bind, Sem.run_map]
  rw [valsX_run hv]
  · simp [hl]
  · intro u
    rfl
  · intro a t
    rfl
theorem resultsX_single {fn : Func} {r : ResultVar} {v : Value} (h : fn.results = #[r]) (hv : ValsX P tmps w [r] [v]) : (results fn tmps).run P w = .ok v w := by
  unfold results
  rw [show fn.results = [r].toArray from h, List.mapM_toArray]
  simp only [Sem.run_bind, Sem.run_map]
  rw [valsX_run hv]
  · simp
  · intro u
    rfl
  · intro a t
    rfl
end
end Go.Proofs.Ytmkncddbecmlpaa.XB
namespace Go.Proofs.Ytmkncddbecmlpaa.XB
open Go.RowKit Go.Shelf Go.Proofs.YtmkncddbecmlpaaW.PrintWords
def QM (n : Nat) (P : Program) (fn : Func) (R : Ending → World → Prop) : Exit → Act → World → Prop
  | .normal, a, w | .ret, a, w => LeavesInM Fence.wide n P fn a.tmps R a.defers .returning w
  | _, _, _ => False
theorem QM_wp {n : Nat} {P : Program} {fn : Func} {R : Ending → World → Prop} {c : Code} {a : Act} {w : World} (h : c.wp P (QM n P fn R) a w) : c.wpIn Fence.wide n P (bodyPostM Fence.wide n P fn R) a w := by
  refine wpIn_mono (wpIn_wide.2 h) ?_
  intro e a w h
  cases e <;> first | exact h | exact h.elim
theorem QM_ret {n : Nat} {P : Program} {fn : Func} {R : Ending → World → Prop} {e : Exit} {tmps : Array Value} {w : World} {D : Nat} {v : Value} (he : e = .ret ∨ e = .normal)
    (hD : w.heap[D]? = some (.deferred (some []))) (hv : (results fn tmps).run P (w.putObj D (.deferred none)) = .ok v (w.putObj D (.deferred none))) (hR : R (.returned v) (w.putObj D (.deferred none))) :
    QM n P fn R e { tmps := tmps, defers := [{ target := .collected D, args := #[] }] } w := by
  have h : LeavesInM Fence.wide n P fn tmps R [{ target := .collected D, args := #[] }] .returning w :=
    ⟨by simp, .inl ⟨_, _, rfl, run_takeDeferred hD, _, hv, hR⟩⟩
  rcases he with rfl | rfl <;> exact h
end Go.Proofs.Ytmkncddbecmlpaa.XB
namespace Go.Proofs.Ytmkncddbecmlpaa.XB
open Go.RowKit Go.Shelf Go.Proofs.YtmkncddbecmlpaaW.PrintWords
attribute [local go_sem] Oper.semAt_some
variable {F : Fence} {n : Nat} {P : Program}
theorem assign_one (l rid d p ty : Nat) (pos : String) (v : Value) (tmps : Array Value) (W : World) (K : Act → World → Prop) (hp : p < tmps.size)
    (hK : K { tmps := (tmps.setIfInBounds p v).setIfInBounds d v, defers := [] } W) :
    (Code.region rid #[{ dst := some d, op := Op.assign (Operand.tmp p), type := ty, pos := pos, after := #[], guard := none }] false).wpIn (F.inRound l) n P (Exit.then K (fun _ _ _ => False)) { tmps := (#[p].zip #[v]).foldl (fun t (p, v) => t.setIfInBounds p v) tmps, defers := [] } W := by
  have hv : ((tmps.setIfInBounds p v)[p]?).getD undef = v := by simp [hp]
  have hv2 : (tmps.setIfInBounds p v).getD p undef = v := by simpa using hv
  gi_wp2
  exact hK
theorem wp_range1 {g : Operand} {p d rid ty : Nat} {pos : String} {body : Code} {Q : Exit → Act → World → Prop} {tmps : Array Value} {w : World}
    (hn : 1 ≤ n) {gf : Nat} {lb : Array Value} (hg : ({ tmps := tmps, defers := [] } : Act).eval g = .func (.func gf) #[] lb) (eg : ∀ args w, (callFunc gf args).run P w = .ok (.enter gf args) w)
    (v : Nat → Value) (N : Nat) {Start : World → Prop} {Tch Kp : World → World → Prop} (hseq : IterSeq Fence.wide (n - 1) P gf lb (fun k => #[v k]) N Start Tch Kp)
    (hStart : OwnW w.heap.size Start) (hs0 : Start w) (hT : ∀ A B, Tch A B → KeepsFrom w.heap.size A B)
    (hKt : ∀ {A B C : World}, Kp A B → Kp B C → Kp A C) (hKb : ∀ (W : World) (l : Nat) (o o' : Obj), w.heap.size ≤ l → W.heap[l]? = some o → o.isCells = false → Kp W (W.putObj l o')) (hp : p < tmps.size)
    (I : Nat → World → Prop) (Ix : Code → Nat → World → Prop) (hI : ∀ k, OwnW w.heap.size (I k)) (hIx : ∀ c k, OwnW w.heap.size (Ix c k))
    (hIT : ∀ k A B, I k A → Tch A B → I k B) (hIxT : ∀ c k A B, Ix c k A → Tch A B → Ix c k B) (h0 : I 0 w)
    (hbody : ∀ (l k : Nat) (W : World), I k W → k < N → body.wpIn (Fence.wide.inRound l) (n - 1 - 1) P (seqPost w.heap.size Kp I Ix (k + 1) W) { tmps := (tmps.setIfInBounds p (v k)).setIfInBounds d (v k), defers := [] } W)
    (hdone : ∀ (D : Nat) (W : World), w.heap.size ≤ D → I N W → W.heap[D]? = some (.deferred (some [])) → Q .normal { tmps := tmps, defers := [{ target := .collected D, args := #[] }] } W)
    (hstop : ∀ (D : Nat) (c : Code) (k : Nat) (W : World), w.heap.size ≤ D → k ≤ N → Ix c k W → W.heap[D]? = some (.deferred (some [])) → c.wp P Q { tmps := tmps, defers := [{ target := .collected D, args := #[] }] } W) :
    (Code.rangeFunc g #[p] (Code.region rid #[{ dst := some d, op := Op.assign (Operand.tmp p), type := ty, pos := pos, after := #[], guard := none }] false) body).wp P Q { tmps := tmps, defers := [] } w :=
  wpIn_wide.1 (wpIn_rangeFunc_seq (n := n) rfl hn hg trivial eg hseq hStart hs0 hT hKt hKb (fun _ => rfl) I Ix hI hIx hIT hIxT h0
    (fun k => { tmps := (tmps.setIfInBounds p (v k)).setIfInBounds d (v k), defers := [] })
    (fun l k W K hK => assign_one l rid d p ty pos (v k) tmps W K hp hK) hbody hdone (fun D c k W h1 h2 h3 h4 => wpIn_wide.2 (hstop D c k W h1 h2 h3 h4)))
end Go.Proofs.Ytmkncddbecmlpaa.XB
namespace Go.Proofs.Ytmkncddbecmlpaa.XB
open Go.RowKit Go.Shelf Go.Proofs.YtmkncddbecmlpaaW.PrintWords
end Go.Proofs.Ytmkncddbecmlpaa.XB
namespace Go.Proofs.Ytmkncddbecmlpaa.XB
open Go.RowKit Go.Shelf Go.Proofs.YtmkncddbecmlpaaW.PrintWords
theorem keeps_below {B : Nat} {W W1 : World} (h : Below W.heap.size W W1) : KeepsFrom B W W1 := ⟨h.size, fun _ _ _ hk _ => blk_same hk h⟩
theorem keeps_alloc {B : Nat} {W W1 : World} (h : KeepsFrom B W W1) (o : Obj) : KeepsFrom B W (W1.alloc o) := h.trans ((KeepsOthers.alloc _ _).from _)
theorem keeps_set {B : Nat} {W W1 : World} (h : KeepsFrom B W W1) (p : Addr) (u : Value) : KeepsFrom B W (W1.setCell p u) := h.trans ((KeepsOthers.setCell _ _ _).from _)
end Go.Proofs.Ytmkncddbecmlpaa.XB
namespace Go.Proofs.Ytmkncddbecmlpaa.XB
open Go.RowKit Go.Shelf Go.Proofs.YtmkncddbecmlpaaW.PrintWords
section
variable {w : World} {g : Nat} {t : TypeId} {a b c d : Value}
theorem put10 (h : w.heap[g]? = some (.cells #[a] t (0, 0))) (v : Value) : (w.setCell ⟨g, 0, none⟩ v).heap[g]? = some (.cells #[v] t (0, 0)) := blk_set h 0 v
theorem put20 (h : w.heap[g]? = some (.cells #[a, b] t (0, 0))) (v : Value) : (w.setCell ⟨g, 0, none⟩ v).heap[g]? = some (.cells #[v, b] t (0, 0)) := blk_set h 0 v
theorem put21 (h : w.heap[g]? = some (.cells #[a, b] t (0, 0))) (v : Value) : (w.setCell ⟨g, 1, none⟩ v).heap[g]? = some (.cells #[a, v] t (0, 0)) := blk_set h 1 v
theorem put30 (h : w.heap[g]? = some (.cells #[a, b, c] t (0, 0))) (v : Value) : (w.setCell ⟨g, 0, none⟩ v).heap[g]? = some (.cells #[v, b, c] t (0, 0)) := blk_set h 0 v
theorem put31 (h : w.heap[g]? = some (.cells #[a, b, c] t (0, 0))) (v : Value) : (w.setCell ⟨g, 1, none⟩ v).heap[g]? = some (.cells #[a, v, c] t (0, 0)) := blk_set h 1 v
theorem put32 (h : w.heap[g]? = some (.cells #[a, b, c] t (0, 0))) (v : Value) : (w.setCell ⟨g, 2, none⟩ v).heap[g]? = some (.cells #[a, b, v] t (0, 0)) := blk_set h 2 v
theorem put40 (h : w.heap[g]? = some (.cells #[a, b, c, d] t (0, 0))) (v : Value) : (w.setCell ⟨g, 0, none⟩ v).heap[g]? = some (.cells #[v, b, c, d] t (0, 0)) := blk_set h 0 v
theorem put41 (h : w.heap[g]? = some (.cells #[a, b, c, d] t (0, 0))) (v : Value) : (w.setCell ⟨g, 1, none⟩ v).heap[g]? = some (.cells #[a, v, c, d] t (0, 0)) := blk_set h 1 v
theorem put42 (h : w.heap[g]? = some (.cells #[a, b, c, d] t (0, 0))) (v : Value) : (w.setCell ⟨g, 2, none⟩ v).heap[g]? = some (.cells #[a, b, v, d] t (0, 0)) := blk_set h 2 v
theorem put43 (h : w.heap[g]? = some (.cells #[a, b, c, d] t (0, 0))) (v : Value) : (w.setCell ⟨g, 3, none⟩ v).heap[g]? = some (.cells #[a, b, c, v] t (0, 0)) := blk_set h 3 v
end
theorem blk_drew {w : World} {g : Nat} {o : Obj} (h : w.heap[g]? = some o) : w.drew.heap[g]? = some o := h
theorem keeps_drew {B : Nat} {W W1 : World} (h : KeepsFrom B W W1) : KeepsFrom B W W1.drew := ⟨h.1, fun k o h1 h2 h3 => h.2 k o h1 h2 h3⟩
theorem own_ne {α : Type} {d : Kd α} {e base g : Nat} {W : World} {ok : Nat → Prop} {v : Value} {xs : List α} (hR : d.R e W base ok v xs) {cs : Array Value} {t : TypeId} (hg : W.heap[g]? = some (.cells cs t (0, 0))) (ht : t ≠ e) : ∀ k, some k = v.ownBlock → k ≠ g := by
  rintro k hs rfl
  obtain ⟨cells, hc⟩ := Kd.R_typed hR _ hs.symm
  rw [hc] at hg
  cases hg
  exact ht rfl
end Go.Proofs.Ytmkncddbecmlpaa.XB
end
section
set_option linter.unusedVariables false
namespace Go.Proofs.Ytmkncddbecmlpaa.XB
open Go.RowKit Go.Shelf Go.Proofs.YtmkncddbecmlpaaW.PrintWords
variable {F : Fence} {n : Nat} {P : Program} {κ : Type}
structure Keys (P : Program) (kt : TypeId) [DecidableEq κ] (enc : κ → Value) : Prop where
  check : ∀ (x : κ) (e : Bool) (w : World), (Instr.checkKey e 10000 kt (enc x)).run P w = .ok () w
  find : ∀ (x : κ) (xs : List κ) (es : List MapEntry) (w : World), es.map (·.key) = xs.map enc → (∀ e ∈ es, e.val = .agg #[]) →
    (x ∈ xs ∧ ∃ i, (Instr.findKey kt (enc x) es).run P w = .ok (some (i, .agg #[])) w) ∨ (x ∉ xs ∧ (Instr.findKey kt (enc x) es).run P w = .ok none w)
def SetIs (enc : κ → Value) (w : World) (b : Nat) (xs : List κ) : Prop :=
  ∃ es clock, w.heap[b]? = some (.map es clock) ∧ es.toList.map (·.key) = xs.map enc ∧ ∀ e ∈ es.toList, e.val = .agg #[]
variable [DecidableEq κ] {kt et : TypeId} {enc : κ → Value}
theorem SetIs.look {t : TypeId} {w : World} {b : Nat} {xs : List κ} (h : SetIs enc w b xs) (K : Keys P kt enc) (ht : P.underlying t = some (.map kt et)) (hz : (zeroValue et).run P w = .ok (.agg #[]) w) (x : κ) :
    (Instr.lookup t (.map (some b)) (enc x) true).run P w = .ok (.tuple #[.agg #[], .bool (decide (x ∈ xs))]) w := by
  obtain ⟨es, clock, hb, hk, hv⟩ := h
  have hg : (getObj b).run P w = .ok (.map es clock) w := MapKept.run_getObj_map hb
  rcases K.find x xs es.toList w hk hv with ⟨hm, i, hf⟩ | ⟨hm, hf⟩
  · simp [Instr.lookup, run_underlying ht, hg, K.check, hf, hm, Result.andThen]
  · simp [Instr.lookup, run_underlying ht, hg, K.check, hf, hm, hz, Result.andThen]
theorem SetIs.put {t : TypeId} {w : World} {b : Nat} {xs : List κ} (h : SetIs enc w b xs) (K : Keys P kt enc) (ht : P.underlying t = some (.map kt et)) (x : κ) (hx : x ∉ xs) :
    ∃ o : Obj, (Instr.mapUpdate t (.map (some b)) (enc x) (.agg #[])).run P w = .ok () (w.putObj b o) ∧ o.isCells = false ∧ SetIs enc (w.putObj b o) b (xs ++ [x]) := by
  obtain ⟨es, clock, hb, hk, hv⟩ := h
  have hg : (getObj b).run P w = .ok (.map es clock) w := MapKept.run_getObj_map hb
  rcases K.find x xs es.toList w hk hv with ⟨hm, i, hf⟩ | ⟨hm, hf⟩
  · exact absurd hm hx
  · refine ⟨.map (es.push { key := enc x, val := .agg #[], born := clock }) (clock + 1), ?_, rfl, _, _, World.putObj_heap_same (blk_lt hb), ?_, ?_⟩
    · simp [Instr.mapUpdate, run_underlying ht, hg, K.check, hf, Result.andThen]
      exact MapKept.run_setObj_map _ hb
    · simp [hk]
    · intro e he
      simp at he
      rcases he with he | rfl
      · exact hv e (by simpa using he)
      · rfl
theorem keys_string {kt : TypeId} (hk : P.underlying kt = some .string) : Keys P kt Value.string where
  check x e w := MapKept.run_checkKey hk (d := .string) (k := .string x) trivial e 9999
  find x xs es w h1 h2 := by
    have hmem : ∀ e ∈ es, ∃ y ∈ xs, e.key = .string y := fun e he => by
      have : e.key ∈ es.map (·.key) := List.mem_map_of_mem he
      rw [h1] at this
      obtain ⟨y, hy, e'⟩ := List.mem_map.1 this
      exact ⟨y, hy, e'.symm⟩
    have hks : ∀ e ∈ es, MapKept.IsKey .string e.key := fun e he => by
      obtain ⟨y, _, e'⟩ := hmem e he
      rw [e']
      trivial
    rcases MapKept.findNow_spec (d := .string) (k := .string x) trivial es 0 hks with ⟨f1, f2⟩ | ⟨i, e0, f1, f2, f3⟩
    · refine .inr ⟨fun hx => ?_, MapKept.run_findKey hk f1⟩
      have : Value.string x ∈ es.map (·.key) := by rw [h1]; exact List.mem_map_of_mem hx
      obtain ⟨e, he, e'⟩ := List.mem_map.1 this
      exact f2 e he e'
    · have he0 := List.mem_of_getElem? f2
      refine .inl ⟨?_, i, ?_⟩
      · obtain ⟨y, hy, e'⟩ := hmem e0 he0
        rw [f3] at e'
        cases e'
        exact hy
      · have := MapKept.run_findKey hk (w := w) f1
        rw [h2 e0 he0] at this
        simpa using this
end Go.Proofs.Ytmkncddbecmlpaa.XB
namespace Go.Proofs.Ytmkncddbecmlpaa.XB
open Go.RowKit Go.Shelf Go.Proofs.YtmkncddbecmlpaaW.PrintWords
variable {κ : Type} {enc : κ → Value}
theorem SetIs.same {W W' : World} {b : Nat} {xs : List κ} (h : SetIs enc W b xs) (hb : W'.heap[b]? = W.heap[b]?) : SetIs enc W' b xs := by
  obtain ⟨es, clock, h1, h2⟩ := h
  exact ⟨es, clock, hb.trans h1, h2⟩
theorem SetIs.lt {W : World} {b : Nat} {xs : List κ} (h : SetIs enc W b xs) : b < W.heap.size := by
  obtain ⟨es, clock, h1, h2⟩ := h
  exact blk_lt h1
theorem OwnW.set {B : Nat} (g : Nat) (hg : g < B) (xs : List κ) : OwnW B (fun W => SetIs enc W g xs) := fun W W' row h hgr hr => by
  obtain ⟨es, clock, h1, h2⟩ := h
  refine ⟨es, clock, blk_grown h1 hgr (fun e => ?_), h2⟩
  have := (hr g e.symm).1
  omega
theorem below_trans {n : Nat} {A B C : World} (h : Below n A B) (k : Below n B C) : Below n A C := h.trans k
theorem below_put {n : Nat} {W : World} {l : Nat} (o' : Obj) (hn : n ≤ l) (hl : l < W.heap.size) : Below n W (W.putObj l o') :=
  Below.grown (Below.refl n W) (grownBy_putObj' W l o') (by omega) (fun k e => by cases e; exact hn)
end Go.Proofs.Ytmkncddbecmlpaa.XB
end
section
namespace Go.Proofs.Ytmkncddbecmlpaa.Pr
open Go.RowKit Go.Shelf Go.Proofs.Ytmkncddbecmlpaa.XB Go.Proofs.YtmkncddbecmlpaaW.PrintWords
attribute [local go_sem] Oper.semAt_some run_makeMap Result.andThen_ok
set_option linter.unusedVariables false
def told {κ : Type} (vals : Nat → κ) (k : Nat) : List κ := (List.range k).map vals
theorem told_succ {κ : Type} (vals : Nat → κ) (k : Nat) : told vals (k + 1) = told vals k ++ [vals k] := by simp [told, List.range_succ]
theorem told_nodup {κ : Type} {vals : Nat → κ} {k : Nat} (h : (told vals k).Nodup) (hk : vals k ∉ told vals k) : (told vals (k + 1)).Nodup := by
  rw [told_succ, List.nodup_append]
  refine ⟨h, by simp, ?_⟩
  intro a ha b hb hab
  simp at hb
  subst hb
  exact hk (hab ▸ ha)
theorem told_dup {κ : Type} {vals : Nat → κ} {k : Nat} (hk : vals k ∈ told vals k) : ∀ N, k + 1 ≤ N → ¬ (told vals N).Nodup := by
  intro N hN hd
  have h1 : (told vals (k + 1)).Nodup := by
    refine List.Nodup.sublist ?_ hd
    unfold told
    refine List.Sublist.map _ ?_
    exact List.range_sublist.2 hN
  rw [told_succ, List.nodup_append] at h1
  exact h1.2.2 _ hk _ (by simp) rfl
def dup {κ : Type} [DecidableEq κ] (l : List κ) : Bool := !decide l.Nodup
set_option maxRecDepth 100000 in
set_option maxHeartbeats 4000000 in
theorem twice9_calls (gf : Nat) (lb : Array Value) (vals : Nat → ByteArray) (N : Nat) (w : World) (eg : ∀ args w, (callFunc gf args).run Try.prog w = .ok (.enter gf args) w)
    (hseq : IterSeq Fence.wide 8 Try.prog gf lb (fun k => #[.string (vals k)]) N (fun W => Below w.heap.size w W) (fun A B => Below A.heap.size A B) (fun A B => Below w.heap.size A B)) :
    Calls Try.prog 59 #[.func (.func gf) #[] lb] w fun e w' => e = .returned (.bool (dup (told vals N))) ∧ Below w.heap.size w w' := by
  refine (callsIn_wide (n := 9)).1 (callsIn_of_wp_marks Try.func59 rfl trivial ?_ rfl)
  refine XB.QM_wp ?_
  simp only [Try.ntmps59, List.size_toArray, List.length_cons, List.length_nil, Nat.reduceAdd, Nat.reduceSub, Array.replicate_succ, Array.replicate_zero, List.push_toArray, List.append_toArray, List.nil_append, List.cons_append]
  go_wp2
  have hz : ∀ w : World, (zeroValue 110).run Try.prog w = .ok (.agg #[]) w := fun w => by rfl
  have hkey : Keys Try.prog 9 Value.string := keys_string Try.underlying9
  generalize hW : ((w.alloc (.cells #[.bool false] 4)).alloc (.map #[] 0)).alloc (.cells #[.map (some (w.heap.size + 1))] 109) = W
  have F2 : W.heap[w.heap.size]? = some (.cells #[.bool false] 4 (0, 0)) := by rw [← hW]; exact blk_alloc (blk_alloc (heap_alloc_new _ _) _) _
  have FM : SetIs Value.string W (w.heap.size + 1) (told vals 0) := ⟨#[], 0, by rw [← hW]; exact blk_alloc (by simpa using heap_alloc_new (w.alloc (.cells #[.bool false] 4)) (.map #[] 0)) _, rfl, by simp⟩
  have F3 : W.heap[w.heap.size + 1 + 1]? = some (.cells #[.map (some (w.heap.size + 1))] 109 (0, 0)) := by rw [← hW]; simpa using heap_alloc_new ((w.alloc (.cells #[.bool false] 4)).alloc (.map #[] 0)) (.cells #[.map (some (w.heap.size + 1))] 109)
  have FB : Below w.heap.size w W := by rw [← hW]; exact below_alloc (below_alloc (below_alloc (Below.refl _ _) _) _) _
  clear hW
  have hml : w.heap.size + 1 < W.heap.size := FM.lt
  refine XB.wp_range1 (n := 9) (by omega) (gf := gf) (lb := lb) rfl eg (fun k => .string (vals k)) N hseq (OwnW.below (Nat.le_refl _) FB.size) FB (fun A B h => keeps_below h) (fun {A B C} h k => below_trans h k) (fun W_ l o o' hl ho _ => below_put o' (Nat.le_trans FB.size hl) (blk_lt ho)) (by simp)
    (fun k W' => (told vals k).Nodup ∧ SetIs Value.string W' (w.heap.size + 1) (told vals k) ∧ W'.heap[w.heap.size]? = some (.cells #[.bool false] 4 (0, 0)) ∧ W'.heap[w.heap.size + 1 + 1]? = some (.cells #[.map (some (w.heap.size + 1))] 109 (0, 0)) ∧ Below w.heap.size w W')
    (fun c k W' => c = .ret ∧ ¬ (told vals N).Nodup ∧ W'.heap[w.heap.size]? = some (.cells #[.bool true] 4 (0, 0)) ∧ Below w.heap.size w W')
    (fun k => .and (.pure _) (.and (OwnW.set _ hml _) (.and (.blk _ _ _ _) (.and (.blk _ _ _ _) (.below (Nat.le_refl _) FB.size)))))
    (fun c k => .and (.pure _) (.and (.pure _) (.and (.blk _ _ _ _) (.below (Nat.le_refl _) FB.size))))
    (fun k A B h hT => ⟨h.1, h.2.1.same (hT.block _ h.2.1.lt), blk_same h.2.2.1 hT, blk_same h.2.2.2.1 hT, below_step h.2.2.2.2 hT⟩)
    (fun c k A B h hT => ⟨h.1, h.2.1, blk_same h.2.2.1 hT, below_step h.2.2.2 hT⟩)
    ⟨List.nodup_nil, FM, F2, F3, FB⟩ ?body ?done ?stop
  case body =>
    rintro l k W' ⟨hd, hS, G2, G3, GB⟩ hk
    have c3 := (blk_cell G3 0).trans rfl
    gi_wp2_with fail
    have hlook := hS.look hkey Try.underlying109 (hz W') (vals k)
    by_cases hm : vals k ∈ told vals k
    · simp only [hm, decide_true] at hlook
      rw [hlook]
      simp only [Result.andThen_ok]
      have hk' := Lib.hid (told_dup hm N (by omega))
      have HG2 := Lib.hid G2
      have HGB := Lib.hid GB
      have c2 : ∀ o, (W'.alloc o).cell? ⟨w.heap.size, 0, none⟩ = some (.bool false) := fun o => (blk_cell (blk_alloc G2 o) 0).trans rfl
      have d2 : ∀ o, (W'.alloc o).frozen? ⟨w.heap.size, 0, none⟩ = false := fun o => blk_frozen (blk_alloc G2 o) 0
      clear hd hS G2 G3 GB hlook hm
      gi_wp2
      refine ⟨?_, rfl, hk'.out, ?_, ?_⟩
      · (repeat (first | with_reducible exact ((KeepsFrom.refl W.heap.size W')) | with_reducible refine XB.keeps_drew ?_ | with_reducible refine XB.keeps_alloc ?_ _ | with_reducible refine XB.keeps_set ?_ _ _))
      · (repeat (first | with_reducible exact (HG2.out) | with_reducible refine XB.blk_drew ?_ | with_reducible refine blk_alloc ?_ _ | with_reducible refine blk_far ?_ (by first | assumption | (refine Ne.symm ?_; assumption)) _ | with_reducible apply XB.put10 | with_reducible apply XB.put20 | with_reducible apply XB.put21 | with_reducible apply XB.put30 | with_reducible apply XB.put31 | with_reducible apply XB.put32 | with_reducible apply XB.put40 | with_reducible apply XB.put41 | with_reducible apply XB.put42 | with_reducible apply XB.put43))
      · have hle := Nat.le_refl w.heap.size
        (repeat (first | with_reducible exact (HGB.out) | with_reducible refine below_drew ?_ | with_reducible refine below_alloc ?_ _ | with_reducible refine below_set ?_ (by first | assumption | exact Aside0.out (by assumption))))
    · simp only [hm, decide_false] at hlook
      rw [hlook]
      simp only [Result.andThen_ok]
      have c3' : ∀ o, (W'.alloc o).cell? ⟨w.heap.size + 1 + 1, 0, none⟩ = some (.map (some (w.heap.size + 1))) := fun o => (blk_cell (blk_alloc G3 o) 0).trans rfl
      have hput : ∀ o, ∃ o' : Obj, (Instr.mapUpdate 109 (.map (some (w.heap.size + 1))) (.string (vals k)) (.agg #[])).run Try.prog (W'.alloc o) = .ok () ((W'.alloc o).putObj (w.heap.size + 1) o') ∧ o'.isCells = false ∧ SetIs Value.string ((W'.alloc o).putObj (w.heap.size + 1) o') (w.heap.size + 1) (told vals k ++ [vals k]) :=
        fun o => (hS.same ((Below.alloc (Below.refl W'.heap.size W') (Nat.le_refl _) o).block _ hS.lt)).put hkey Try.underlying109 (vals k) hm
      have HL := Lib.hid hS.lt
      have HG2 := Lib.hid G2; have HG3 := Lib.hid G3; have HGB := Lib.hid GB; have HD := Lib.hid (told_nodup hd hm); have HP := Lib.hid hput
      clear hd hS G2 G3 GB hlook hm hput
      gi_wp2
      obtain ⟨o', hrun, ho', hS'⟩ := HP.out (.cells #[] 110)
      rw [hrun]
      simp only [Result.andThen_ok]
      clear hrun
      have hlt := Lib.hid hml
      clear hml
      gi_wp2
      have hne2 : w.heap.size ≠ w.heap.size + 1 := by omega
      have hne3 : w.heap.size + 1 + 1 ≠ w.heap.size + 1 := by omega
      have HB2 := below_alloc HGB.out (.cells #[] 110)
      refine ⟨⟨?_, ?_⟩, ?_, HD.out, ?_, ?_, ?_, ?_⟩
      · rw [World.putObj_size, World.size_alloc]; omega
      · intro k_ o_ h1 h2 h3
        have := hlt.out
        rw [World.putObj_heap_other (by omega)]
        exact blk_alloc h2 _
      · exact below_trans (Below.alloc (Below.refl _ W') (by have := HGB.out.size; omega) _) (below_put o' (by omega) (by rw [World.size_alloc]; have := HL.out; omega))
      · rw [told_succ]; exact hS'
      · rw [World.putObj_heap_other hne2]; exact blk_alloc HG2.out _
      · rw [World.putObj_heap_other hne3]; exact blk_alloc HG3.out _
      · exact below_trans HB2 (below_put o' (by omega) (by rw [World.size_alloc]; have := HL.out; omega))
  case done =>
    rintro D W' hD ⟨hd, hS, G2, G3, GB⟩ hDD
    rename_i K_ hK_
    refine hK_ _ _ ?_
    clear hK_
    have c2 := (blk_cell G2 0).trans rfl
    have d2 := blk_frozen G2 0
    have hr : dup (told vals N) = false := by unfold dup; rw [decide_eq_true hd]; rfl
    go_wp2
    change XB.QM _ _ _ _ _ _ _
    have hlt : w.heap.size ≠ D := Nat.ne_of_lt (Nat.lt_of_lt_of_le (blk_lt F2) hD)
    have X2 : (W'.setCell ⟨w.heap.size, 0, none⟩ (.bool false)).heap[w.heap.size]? = some (.cells #[.bool false] 4 (0, 0)) := XB.put10 G2 _
    have XD : (W'.setCell ⟨w.heap.size, 0, none⟩ (.bool false)).heap[D]? = some (.deferred (some [])) := (keeps_set (KeepsFrom.refl W.heap.size W') _ _).same D _ hD hDD rfl
    have P2 := (XB.OwnW.blk (B := W.heap.size) _ _ _ _).putObj (.deferred none) X2 hD XD rfl
    refine XB.QM_ret (.inl rfl) XD (XB.resultsX_single rfl (.one _ _ _ _ _ rfl P2 rfl rfl .nil)) ?_
    exact ⟨by rw [hr], (XB.OwnW.below (Nat.le_refl _) FB.size).putObj _ (below_set GB (Nat.le_refl _)) hD XD rfl⟩
  case stop =>
    rintro D c k W' hD hk ⟨rfl, hn, G2, GB⟩ hDD
    have hr : dup (told vals N) = true := by unfold dup; rw [decide_eq_false hn]; rfl
    go_wp2
    change XB.QM _ _ _ _ _ _ _
    have P2 := (XB.OwnW.blk (B := W.heap.size) _ _ _ _).putObj (.deferred none) G2 hD hDD rfl
    refine XB.QM_ret (.inl rfl) hDD (XB.resultsX_single rfl (.one _ _ _ _ _ rfl P2 rfl rfl .nil)) ?_
    exact ⟨by rw [hr], (XB.OwnW.below (Nat.le_refl _) FB.size).putObj _ GB hD hDD rfl⟩
end Go.Proofs.Ytmkncddbecmlpaa.Pr
end
section
namespace Go.Proofs.Ytmkncddbecmlpaa.Pr
open Go.RowKit Go.Shelf Go.Proofs.Ytmkncddbecmlpaa.XB Go.Proofs.YtmkncddbecmlpaaW.PrintWords
attribute [local go_sem] Oper.semAt_some
set_option linter.unusedVariables false
set_option maxRecDepth 100000 in
set_option maxHeartbeats 4000000 in
theorem names1_seq (m : Nat) (hm : 1 ≤ m) (w0 : World) (b1 b2 fo : Nat) (s : ByteArray) (i : Int) (A : Option Addr) (c : Nat) (v3 : Value) (bo : Bool) (xs : List S72) (f : S72 → ByteArray)
    (h1 : w0.heap[b1]? = some (.cells #[.string s, .int .i64 i, .slice A xs.length c, v3, .bool bo] 50 (0, 0))) (h2 : w0.heap[b2]? = some (.cells #[.func (.func fo) #[] #[]] 94 (0, 0))) (hr : Kd.C k72 w0 A xs.length xs) (hc : xs.length ≤ c) (hxs : xs.length ≤ 9223372036854775807)
    (hof : ∀ (x : S72) (w : World), Calls Try.prog fo #[.agg #[.string x.f0, .string x.f1]] w fun e w' => e = .returned (.string (f x)) ∧ Below w.heap.size w w')
    (efo : ∀ args w, (callFunc fo args).run Try.prog w = .ok (.enter fo args) w) :
    IterSeq Fence.wide m Try.prog 75 #[.pointer (some ⟨b1, 0, none⟩), .pointer (some ⟨b2, 0, none⟩)] (fun k => #[.string (f (rd_T72 xs k))]) xs.length (fun W => Below w0.heap.size w0 W) (fun A B => Below A.heap.size A B) (fun A B => Below w0.heap.size A B) := by
  intro l J Jx W hS hJT hJxT hY h0
  have hcell : ∀ W', Below w0.heap.size w0 W' → W'.heap[b1]? = some (.cells #[.string s, .int .i64 i, .slice A xs.length c, v3, .bool bo] 50 (0, 0)) ∧ W'.heap[b2]? = some (.cells #[.func (.func fo) #[] #[]] 94 (0, 0)) := fun W' hb => ⟨blk_same h1 hb, blk_same h2 hb⟩
  have c1 := (blk_cell (hcell W hS).1 2).trans rfl
  refine callsIn_of_wp Try.func75 rfl trivial ?_ rfl
  simp only [Try.ntmps75, List.size_toArray, List.length_cons, List.length_nil, Nat.reduceAdd, Nat.reduceSub, Array.replicate_succ, Array.replicate_zero, List.push_toArray, List.append_toArray, List.nil_append, List.cons_append]
  gi_wp2
  gi_loopw [9] (fun v wr => ∃ k : Nat, k ≤ xs.length ∧ v = .int .i64 k ∧ J k wr ∧ Below w0.heap.size w0 wr)
    (fun v _ => xs.length - (intOf v).toNat)
  case atStart => exact ⟨0, by omega, rfl, h0, hS⟩
  case round =>
    obtain ⟨k, hk, rfl, hJs, hB⟩ := hrel
    by_cases hlt : k < xs.length
    · have d0 := (hcell wr hB)
      have c2 := fun (o : Obj) => (blk_cell (blk_alloc d0.2 o) 0).trans rfl
      obtain ⟨ad, rfl, r0, r1⟩ := at_T72 hr (k : Int) (by omega) (by omega)
      have q0 := (hB.cell (World.block_lt_of_cell? w0 _ r0)).trans r0
      have q1 := (hB.cell (World.block_lt_of_cell? w0 _ r1)).trans r1
      simp only [Int.toNat_natCast] at q0 q1
      clear r0 r1
      gi_wp2_with fail
      refine ⟨trivial, (callsIn_wide.2 (hof (rd_T72 xs (k : Int)) _)).mono ?_⟩
      rintro e W1 ⟨rfl, hb⟩
      have hw : wrap64 ((k : Int) + 1) = (k : Int) + 1 := by unfold wrap64; omega
      have hstep : Below wr.heap.size wr W1 := below_step (below_alloc (Below.refl _ _) _) hb
      have hB1 : Below w0.heap.size w0 W1 := below_step hB hstep
      obtain ⟨fn, tmps, assign, body, hy, hR⟩ := hY k W1 (hJT k _ _ hJs hstep) hlt
      clear hb c2 q0 q1 d0
      gi_wp2
      refine hR.mono ?_
      rintro e W3 (⟨rfl, hJ3, hk3⟩ | ⟨rfl, hJx3⟩)
      · gi_wp2
        go_roundw
        case rel => exact ⟨k + 1, by omega, by simp, hJ3, below_trans hB1 hk3⟩
        case measure => simp [intOf]; omega
      · gi_wp2
        refine bodyPost_ret (results_none rfl _ _ _) rfl ?_
        exact ⟨⟨_, rfl⟩, .inr ⟨k + 1, by omega, hJx3⟩⟩
    · obtain rfl : k = xs.length := by omega
      gi_wp2
      go_end0
      exact ⟨⟨_, rfl⟩, .inl hJs⟩
set_option maxRecDepth 100000 in
set_option maxHeartbeats 4000000 in
theorem cells1_seq (m : Nat) (hm : 1 ≤ m) (w0 : World) (b1 b2 fo : Nat) (s : ByteArray) (i : Int) (v2 : Value) (A : Option Addr) (c : Nat) (bo : Bool) (xs : List S74) (f : S74 → ByteArray × ByteArray)
    (h1 : w0.heap[b1]? = some (.cells #[.string s, .int .i64 i, v2, .slice A xs.length c, .bool bo] 50 (0, 0))) (h2 : w0.heap[b2]? = some (.cells #[.func (.func fo) #[] #[]] 101 (0, 0))) (hr : Kd.C k74 w0 A xs.length xs) (hc : xs.length ≤ c) (hxs : xs.length ≤ 9223372036854775807)
    (hof : ∀ (x : S74) (w : World), Calls Try.prog fo #[.agg #[.string x.f0, .string x.f1, .string x.f2]] w fun e w' => e = .returned (.agg #[.string (f x).1, .string (f x).2]) ∧ Below w.heap.size w w')
    (efo : ∀ args w, (callFunc fo args).run Try.prog w = .ok (.enter fo args) w) :
    IterSeq Fence.wide m Try.prog 76 #[.pointer (some ⟨b1, 0, none⟩), .pointer (some ⟨b2, 0, none⟩)] (fun k => #[.agg #[.string (f (rd_T74 xs k)).1, .string (f (rd_T74 xs k)).2]]) xs.length (fun W => Below w0.heap.size w0 W) (fun A B => Below A.heap.size A B) (fun A B => Below w0.heap.size A B) := by
  intro l J Jx W hS hJT hJxT hY h0
  have hcell : ∀ W', Below w0.heap.size w0 W' → W'.heap[b1]? = some (.cells #[.string s, .int .i64 i, v2, .slice A xs.length c, .bool bo] 50 (0, 0)) ∧ W'.heap[b2]? = some (.cells #[.func (.func fo) #[] #[]] 101 (0, 0)) := fun W' hb => ⟨blk_same h1 hb, blk_same h2 hb⟩
  have c1 := (blk_cell (hcell W hS).1 3).trans rfl
  refine callsIn_of_wp Try.func76 rfl trivial ?_ rfl
  simp only [Try.ntmps76, List.size_toArray, List.length_cons, List.length_nil, Nat.reduceAdd, Nat.reduceSub, Array.replicate_succ, Array.replicate_zero, List.push_toArray, List.append_toArray, List.nil_append, List.cons_append]
  gi_wp2
  gi_loopw [9] (fun v wr => ∃ k : Nat, k ≤ xs.length ∧ v = .int .i64 k ∧ J k wr ∧ Below w0.heap.size w0 wr)
    (fun v _ => xs.length - (intOf v).toNat)
  case atStart => exact ⟨0, by omega, rfl, h0, hS⟩
  case round =>
    obtain ⟨k, hk, rfl, hJs, hB⟩ := hrel
    by_cases hlt : k < xs.length
    · have d0 := (hcell wr hB)
      have c2 := fun (o : Obj) => (blk_cell (blk_alloc d0.2 o) 0).trans rfl
      obtain ⟨ad, rfl, r0, r1, r2⟩ := at_T74 hr (k : Int) (by omega) (by omega)
      have q0 := (hB.cell (World.block_lt_of_cell? w0 _ r0)).trans r0
      have q1 := (hB.cell (World.block_lt_of_cell? w0 _ r1)).trans r1
      have q2 := (hB.cell (World.block_lt_of_cell? w0 _ r2)).trans r2
      simp only [Int.toNat_natCast] at q0 q1 q2
      clear r0 r1 r2
      gi_wp2_with fail
      refine ⟨trivial, (callsIn_wide.2 (hof (rd_T74 xs (k : Int)) _)).mono ?_⟩
      rintro e W1 ⟨rfl, hb⟩
      have hw : wrap64 ((k : Int) + 1) = (k : Int) + 1 := by unfold wrap64; omega
      have hstep : Below wr.heap.size wr W1 := below_step (below_alloc (Below.refl _ _) _) hb
      have hB1 : Below w0.heap.size w0 W1 := below_step hB hstep
      obtain ⟨fn, tmps, assign, body, hy, hR⟩ := hY k W1 (hJT k _ _ hJs hstep) hlt
      clear hb c2 q0 q1 q2 d0
      gi_wp2
      refine hR.mono ?_
      rintro e W3 (⟨rfl, hJ3, hk3⟩ | ⟨rfl, hJx3⟩)
      · gi_wp2
        go_roundw
        case rel => exact ⟨k + 1, by omega, by simp, hJ3, below_trans hB1 hk3⟩
        case measure => simp [intOf]; omega
      · gi_wp2
        refine bodyPost_ret (results_none rfl _ _ _) rfl ?_
        exact ⟨⟨_, rfl⟩, .inr ⟨k + 1, by omega, hJx3⟩⟩
    · obtain rfl : k = xs.length := by omega
      gi_wp2
      go_end0
      exact ⟨⟨_, rfl⟩, .inl hJs⟩
end Go.Proofs.Ytmkncddbecmlpaa.Pr
end
