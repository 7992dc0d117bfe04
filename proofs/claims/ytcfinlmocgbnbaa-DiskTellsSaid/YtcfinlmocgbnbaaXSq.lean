/-
  Short words for the printed texts: the steps of a region in which the order of evaluation is open, and facts that new blocks leave as they are. Each names its conditions.
-/
import Derived.Test.YtcfinlmocgbnbaaWWords
import Derived.Test.YtcfinlmocgbnbaaWLast
import Derived.Test.YtcfinlmocgbnbaaWTab
import Derived.Test.YtcfinlmocgbnbaaWMore
set_option linter.unusedVariables false
namespace Go.Proofs.Ytcfinlmocgbnbaa.Sq
open Go.RowKit Go.Proofs.YtcfinlmocgbnbaaW.PrintWords Go.Proofs.YtcfinlmocgbnbaaW.PrintLast Go.Proofs.YtcfinlmocgbnbaaW.PrintMore
variable {P : Program} {ops : Array Oper} {Q : Exit → Act → World → Prop} {md : Region.Mode} {S : World → Prop} {ds : List Nat} {T : Bool × List (List Nat × List Nat)} {B : List Nat}
theorem pu_ {oi : Oper} {v : Value} {fuel : Nat} {l : Array Bool} {a a' : Act} {w : World} (i : Nat) (N : Option Tmp) (hT : Aside0 (rtab md ops = T)) (hi : ops[i]? = some oi) (hN : oi.dst = N)
    (hy : Yields P ops oi v a) (ha : a.put N v = a') (h : wpAnyLast P md ops Q S ds fuel (l.setIfInBounds i true) a' w) (hc : anyT T l.toList (l.setIfInBounds i true).toList i = true := by kernel_rfl) (hQ : ∀ c a w, Q (.panic c) (a.put oi.dst v) w → Q (.panic c) a w := by exact fun _ _ _ h => h) : wpAnyLast P md ops Q S ds (fuel + 1) l a w :=
  pure_ (i := i) (N := N) _ hi hN (any_of hT.out hc) hQ hy ha h
theorem tk_ {oi : Oper} {v : Value} {fuel : Nat} {l : Array Bool} {a a' : Act} {w : World} (i : Nat) (N : Option Tmp) (hT : Aside0 (rtab md ops = T)) (hB : Aside0 (waitsOk T.2 B = true)) (hi : ops[i]? = some oi) (hN : oi.dst = N)
    (hy : YieldsIf P ops S oi v a) (hS : S w) (ha : a.put N v = a') (h : wpAnyLast P md ops Q S ds fuel (l.setIfInBounds i true) a' w) (hc : takeW T B ds l.toList (l.setIfInBounds i true).toList i = true := by kernel_rfl) (hQ : ∀ c a w, Q (.panic c) (a.put oi.dst v) w → Q (.panic c) a w := by exact fun _ _ _ h => h) : wpAnyLast P md ops Q S ds (fuel + 1) l a w :=
  take_ (i := i) (N := N) _ hi hN (take_ofW hT.out hB.out hc) hQ hy hS ha h
theorem on_ {oi : Oper} {fuel : Nat} {l : Array Bool} {a : Act} {w : World} (i : Nat) (N : Option Tmp) (hT : Aside0 (rtab md ops = T)) (hi : ops[i]? = some oi) (hN : oi.dst = N)
    (h : ∀ K : Act → World → Prop, Shut (∀ a' w', S w' → (S w' → wpAnyLast P md ops Q S ds fuel (l.setIfInBounds i true) a' w') → K a' w') → if Region.wanted oi (yielded ops a.tmps) = true then Oper.wp P oi a w K Q else K (a.put N undef) w) (hc : (readyT T.2 l.toList == [i] && l.toList.set i true == (l.setIfInBounds i true).toList) = true := by kernel_rfl) (hd : i ∉ ds := by decide) :
    wpAnyLast P md ops Q S ds (fuel + 1) l a w :=
  one_ (i := i) (N := N) _ hi hN (one_of hT.out hc) hd h
theorem la_ {oi : Oper} {fuel : Nat} {l : Array Bool} {a : Act} {w : World} (i : Nat) (N : Option Tmp) (hT : Aside0 (rtab md ops = T)) (hi : ops[i]? = some oi) (hN : oi.dst = N)
    (h : ∀ K : Act → World → Prop, Shut (∀ a' w', wpAnyLast P md ops Q S ds fuel (l.setIfInBounds i true) a' w' → K a' w') → if Region.wanted oi (yielded ops a.tmps) = true then Oper.wp P oi a w K Q else K (a.put N undef) w) (hc : (readyT T.2 l.toList == [i] && l.toList.set i true == (l.setIfInBounds i true).toList) = true := by kernel_rfl) (hd : i ∈ ds := by decide) :
    wpAnyLast P md ops Q S ds (fuel + 1) l a w :=
  last_ (i := i) (N := N) _ hi hN (one_of hT.out hc) hd h
theorem pn_ {oi : Oper} {v : Value} {fuel : Nat} {l : Array Bool} {a a' : Act} {w : World} (i : Nat) (N : Option Tmp) (hi : ops[i]? = some oi) (hN : oi.dst = N)
    (hy : Yields P ops oi v a) (ha : a.put N v = a') (h : wpAnyLast P md ops Q S ds fuel (l.setIfInBounds i true) a' w) (hc : anyB md ops l (l.setIfInBounds i true) i = true := by kernel_rfl) (hQ : ∀ c a w, Q (.panic c) (a.put oi.dst v) w → Q (.panic c) a w := by exact fun _ _ _ h => h) : wpAnyLast P md ops Q S ds (fuel + 1) l a w :=
  pure_ (i := i) (N := N) _ hi hN hc hQ hy ha h
theorem tn_ {oi : Oper} {v : Value} {fuel : Nat} {l : Array Bool} {a a' : Act} {w : World} (i : Nat) (N : Option Tmp) (hi : ops[i]? = some oi) (hN : oi.dst = N)
    (hy : YieldsIf P ops S oi v a) (hS : S w) (ha : a.put N v = a') (h : wpAnyLast P md ops Q S ds fuel (l.setIfInBounds i true) a' w) (hc : takeB md ops ds l (l.setIfInBounds i true) i = true := by kernel_rfl) (hQ : ∀ c a w, Q (.panic c) (a.put oi.dst v) w → Q (.panic c) a w := by exact fun _ _ _ h => h) : wpAnyLast P md ops Q S ds (fuel + 1) l a w :=
  take_ (i := i) (N := N) _ hi hN hc hQ hy hS ha h
theorem sa_ {α : Type _} (l : List α) (i : Nat) (a : α) : l.toArray.setIfInBounds i a = (l.set i a).toArray := List.setIfInBounds_toArray ..
theorem s0_ {α : Type _} (x : α) (l : List α) (a : α) : (x :: l).set 0 a = a :: l := rfl
theorem s1_ {α : Type _} (x : α) (l : List α) (n : Nat) (a : α) : (x :: l).set (n + 1) a = x :: l.set n a := rfl

/-- The world behind has new blocks, and orders drawn, alone. -/
class Later (w w' : World) : Prop where
  below : Below w.heap.size w w'
instance (w : World) : Later w w := ⟨Below.refl _ _⟩
instance (w w' : World) (o : Obj) [h : Later w w'] : Later w (w'.alloc o) := ⟨below_alloc h.below o⟩
instance (w w' : World) [h : Later w w'] : Later w w'.drew := ⟨below_drew h.below⟩
instance (w w' : World) (n : Nat) [h : Later w w'] : Later w (w'.drewN n) := ⟨pw_below_drewN h.below n⟩
theorem ob_ {α β : Type _} {o : Option α} {f : α → Option β} {b : β} (h : o.bind f = some b) : ∃ a, o = some a ∧ f a = some b := Option.bind_eq_some_iff.mp h
theorem am {p : Prop} (h : p) : Aside0 p := ⟨h⟩
theorem pb {w0 w w' : World} (h : Aside0 (Below w0.heap.size w0 w)) [k : Later w w'] : Below w0.heap.size w0 w' := below_step h.out k.below
theorem pk {w w' : World} {g : Nat} {o : Obj} (h : Aside0 (w.heap[g]? = some o)) [k : Later w w'] : w'.heap[g]? = some o := blk_below h.out k.below
theorem pr {α : Type} {d : Kd α} {e base : Nat} {ok : Nat → Prop} {v : Value} {xs : List α} {w w' : World} (h : Aside0 (d.R e w base ok v xs)) [k : Later w w'] : d.R e w' base ok v xs := Kd.R_below h.out k.below
theorem pc {α : Type} {d : Kd α} {A : Option Addr} {n : Nat} {xs : List α} {w w' : World} (h : d.C w A n xs) [k : Later w w'] : d.C w' A n xs := Kd.C_below h k.below
/-- .. and a row that is told with less of what it lies apart from. -/
theorem pm {α : Type} {d : Kd α} {e base : Nat} {ok ok' : Nat → Prop} {v : Value} {xs : List α} {w w' : World} (h : Aside0 (d.R e w base ok v xs)) (f : ∀ k, ok k → ok' k) [k : Later w w'] : d.R e w' base ok' v xs := Kd.R_mono (Kd.R_below h.out k.below) f
/-! A variable's cells, all at once. -/
section
variable {w : World} {g : Nat} {t : TypeId} {a b c d e f : Value}
theorem bc1 (h : Aside0 (w.heap[g]? = some (.cells #[a] t (0, 0)))) : w.cell? ⟨g, 0, none⟩ = some a := (blk_cell h.out 0).trans rfl
theorem bc2 (h : Aside0 (w.heap[g]? = some (.cells #[a, b] t (0, 0)))) : w.cell? ⟨g, 0, none⟩ = some a ∧ w.cell? ⟨g, 1, none⟩ = some b := ⟨(blk_cell h.out 0).trans rfl, (blk_cell h.out 1).trans rfl⟩
theorem bc3 (h : Aside0 (w.heap[g]? = some (.cells #[a, b, c] t (0, 0)))) : w.cell? ⟨g, 0, none⟩ = some a ∧ w.cell? ⟨g, 1, none⟩ = some b ∧ w.cell? ⟨g, 2, none⟩ = some c := ⟨(blk_cell h.out 0).trans rfl, (blk_cell h.out 1).trans rfl, (blk_cell h.out 2).trans rfl⟩
theorem bc4 (h : Aside0 (w.heap[g]? = some (.cells #[a, b, c, d] t (0, 0)))) : w.cell? ⟨g, 0, none⟩ = some a ∧ w.cell? ⟨g, 1, none⟩ = some b ∧ w.cell? ⟨g, 2, none⟩ = some c ∧ w.cell? ⟨g, 3, none⟩ = some d := ⟨(blk_cell h.out 0).trans rfl, (blk_cell h.out 1).trans rfl, (blk_cell h.out 2).trans rfl, (blk_cell h.out 3).trans rfl⟩
theorem bc5 (h : Aside0 (w.heap[g]? = some (.cells #[a, b, c, d, e] t (0, 0)))) : w.cell? ⟨g, 0, none⟩ = some a ∧ w.cell? ⟨g, 1, none⟩ = some b ∧ w.cell? ⟨g, 2, none⟩ = some c ∧ w.cell? ⟨g, 3, none⟩ = some d ∧ w.cell? ⟨g, 4, none⟩ = some e := ⟨(blk_cell h.out 0).trans rfl, (blk_cell h.out 1).trans rfl, (blk_cell h.out 2).trans rfl, (blk_cell h.out 3).trans rfl, (blk_cell h.out 4).trans rfl⟩
end
/-! A row, behind stores into all cells of a variable that lies elsewhere. -/
section
variable {α : Type} {d : Kd α} {e base g : Nat} {ok : Nat → Prop} {v : Value} {xs : List α} {w : World} {v0 v1 v2 v3 v4 : Value}
theorem rf1 (h : d.R e w base ok v xs) (hg : ∀ k, ok k → k ≠ g) : d.R e (w.setCell ⟨g, 0, none⟩ v0) base ok v xs := Kd.R_far (p := ⟨g, 0, none⟩) h hg v0
theorem rf2 (h : d.R e w base ok v xs) (hg : ∀ k, ok k → k ≠ g) : d.R e ((w.setCell ⟨g, 0, none⟩ v0).setCell ⟨g, 1, none⟩ v1) base ok v xs := Kd.R_far (p := ⟨g, 1, none⟩) (rf1 h hg) hg v1
theorem rf3 (h : d.R e w base ok v xs) (hg : ∀ k, ok k → k ≠ g) : d.R e (((w.setCell ⟨g, 0, none⟩ v0).setCell ⟨g, 1, none⟩ v1).setCell ⟨g, 2, none⟩ v2) base ok v xs := Kd.R_far (p := ⟨g, 2, none⟩) (rf2 h hg) hg v2
theorem rf4 (h : d.R e w base ok v xs) (hg : ∀ k, ok k → k ≠ g) : d.R e ((((w.setCell ⟨g, 0, none⟩ v0).setCell ⟨g, 1, none⟩ v1).setCell ⟨g, 2, none⟩ v2).setCell ⟨g, 3, none⟩ v3) base ok v xs := Kd.R_far (p := ⟨g, 3, none⟩) (rf3 h hg) hg v3
theorem rf5 (h : d.R e w base ok v xs) (hg : ∀ k, ok k → k ≠ g) : d.R e (((((w.setCell ⟨g, 0, none⟩ v0).setCell ⟨g, 1, none⟩ v1).setCell ⟨g, 2, none⟩ v2).setCell ⟨g, 3, none⟩ v3).setCell ⟨g, 4, none⟩ v4) base ok v xs := Kd.R_far (p := ⟨g, 4, none⟩) (rf4 h hg) hg v4
end
/-! Facts of blocks and cells, several at once. -/
section
variable {w : World} {g g' : Nat} {t : TypeId} {cs : Array Value} {o : Obj} {a b c d e a' b' c' d' e' : Value} {i0 i1 i2 i3 i4 : Nat}
theorem bf1 (h : Aside0 (w.heap[g]? = some (.cells cs t (0, 0)))) : w.frozen? ⟨g, 0, none⟩ = false := blk_frozen h.out 0
theorem bf2 (h : Aside0 (w.heap[g]? = some (.cells cs t (0, 0)))) : w.frozen? ⟨g, 0, none⟩ = false ∧ w.frozen? ⟨g, 1, none⟩ = false := ⟨blk_frozen h.out 0, blk_frozen h.out 1⟩
theorem bf3 (h : Aside0 (w.heap[g]? = some (.cells cs t (0, 0)))) : w.frozen? ⟨g, 0, none⟩ = false ∧ w.frozen? ⟨g, 1, none⟩ = false ∧ w.frozen? ⟨g, 2, none⟩ = false := ⟨blk_frozen h.out 0, blk_frozen h.out 1, blk_frozen h.out 2⟩
theorem bf4 (h : Aside0 (w.heap[g]? = some (.cells cs t (0, 0)))) : w.frozen? ⟨g, 0, none⟩ = false ∧ w.frozen? ⟨g, 1, none⟩ = false ∧ w.frozen? ⟨g, 2, none⟩ = false ∧ w.frozen? ⟨g, 3, none⟩ = false := ⟨blk_frozen h.out 0, blk_frozen h.out 1, blk_frozen h.out 2, blk_frozen h.out 3⟩
theorem bf5 (h : Aside0 (w.heap[g]? = some (.cells cs t (0, 0)))) : w.frozen? ⟨g, 0, none⟩ = false ∧ w.frozen? ⟨g, 1, none⟩ = false ∧ w.frozen? ⟨g, 2, none⟩ = false ∧ w.frozen? ⟨g, 3, none⟩ = false ∧ w.frozen? ⟨g, 4, none⟩ = false := ⟨blk_frozen h.out 0, blk_frozen h.out 1, blk_frozen h.out 2, blk_frozen h.out 3, blk_frozen h.out 4⟩
theorem br5 (h : w.heap[g]? = some (.cells cs t (0, 0))) (n : Aside0 (g ≠ g')) : (((((w.setCell ⟨g', i0, none⟩ a).setCell ⟨g', i1, none⟩ b).setCell ⟨g', i2, none⟩ c).setCell ⟨g', i3, none⟩ d).setCell ⟨g', i4, none⟩ e).heap[g]? = some (.cells cs t (0, 0)) :=
  blk_far (blk_far (blk_far (blk_far (blk_far h n.out _) n.out _) n.out _) n.out _) n.out _
theorem bp2 (h : w.heap[g]? = some (.cells #[a, b] t (0, 0))) : ((w.setCell ⟨g, 0, none⟩ a').setCell ⟨g, 1, none⟩ b').heap[g]? = some (.cells #[a', b'] t (0, 0)) := blk_put (cs := #[a', b]) (blk_put (cs := #[a, b]) h 0 _ rfl) 1 _ rfl
theorem bp3 (h : w.heap[g]? = some (.cells #[a, b, c] t (0, 0))) : (((w.setCell ⟨g, 0, none⟩ a').setCell ⟨g, 1, none⟩ b').setCell ⟨g, 2, none⟩ c').heap[g]? = some (.cells #[a', b', c'] t (0, 0)) :=
  blk_put (cs := #[a', b', c]) (blk_put (cs := #[a', b, c]) (blk_put (cs := #[a, b, c]) h 0 _ rfl) 1 _ rfl) 2 _ rfl
theorem bp5 (h : w.heap[g]? = some (.cells #[a, b, c, d, e] t (0, 0))) : (((((w.setCell ⟨g, 0, none⟩ a').setCell ⟨g, 1, none⟩ b').setCell ⟨g, 2, none⟩ c').setCell ⟨g, 3, none⟩ d').setCell ⟨g, 4, none⟩ e').heap[g]? = some (.cells #[a', b', c', d', e'] t (0, 0)) :=
  blk_put (cs := #[a', b', c', d', e]) (blk_put (cs := #[a', b', c', d, e]) (blk_put (cs := #[a', b', c, d, e]) (blk_put (cs := #[a', b, c, d, e]) (blk_put (cs := #[a, b, c, d, e]) h 0 _ rfl) 1 _ rfl) 2 _ rfl) 3 _ rfl) 4 _ rfl
theorem cf5 {p : Addr} (n : Aside0 (p.block ≠ g')) : (((((w.setCell ⟨g', i0, none⟩ a).setCell ⟨g', i1, none⟩ b).setCell ⟨g', i2, none⟩ c).setCell ⟨g', i3, none⟩ d).setCell ⟨g', i4, none⟩ e).cell? p = w.cell? p :=
  (cell_far (p := ⟨g', _, none⟩) n.out _).trans ((cell_far (p := ⟨g', _, none⟩) n.out _).trans ((cell_far (p := ⟨g', _, none⟩) n.out _).trans ((cell_far (p := ⟨g', _, none⟩) n.out _).trans (cell_far (p := ⟨g', _, none⟩) n.out _))))
end
/-! What lies below stays, behind new blocks and stores above. -/
section
variable {w W : World} {g g' j n : Nat} {u : Value} {o : Obj} {t : TypeId} {cs : Array Value}
theorem ba (h : Below w.heap.size w W) : Below w.heap.size w (W.alloc o) := below_alloc h o
theorem bn (h : Below w.heap.size w W) : Below w.heap.size w (W.drewN n) := pw_below_drewN h n
theorem bd (h : Below w.heap.size w W) : Below w.heap.size w W.drew := below_drew1 h
theorem bs (hg : Aside0 (w.heap.size ≤ g)) (h : Below w.heap.size w W) : Below w.heap.size w (W.setCell ⟨g, j, none⟩ u) := below_set h hg.out
theorem ge_ (hg : g = W.heap.size) (h : Below w.heap.size w W) : Aside0 (w.heap.size ≤ g) := ⟨by rw [hg]; exact h.size⟩
theorem nl_ (hg : g' = W.heap.size) (h : Aside0 (w.heap[g]? = some o)) [k : Later w W] : Aside0 (g ≠ g') := ⟨by rw [hg]; exact Nat.ne_of_lt (blk_lt (pk h))⟩
theorem ng_ (hg : g' = W.heap.size) (h : Aside0 (w.heap[g]? = some o)) [k : Later w W] : Aside0 (g' ≠ g) := ⟨by rw [hg]; exact Nat.ne_of_gt (blk_lt (pk h))⟩
end
section
variable {α : Type} {d : Kd α} {e base g : Nat} {ok : Nat → Prop} {v : Value} {xs : List α} {w W : World} {v0 v1 v2 v3 v4 : Value} {t : TypeId} {cs : Array Value}
theorem ra {o : Obj} (h : d.R e w base ok v xs) : d.R e (w.alloc o) base ok v xs := Kd.R_alloc h o
theorem rn {n : Nat} (h : d.R e w base ok v xs) : d.R e (w.drewN n) base ok v xs := Kd.R_drewN h n
theorem rd (h : d.R e w base ok v xs) : d.R e w.drew base ok v xs := Kd.R_drew h
theorem kl (h : d.R e w base ok v xs) [k : Later w W] : d.R e W base ok v xs := Kd.R_below h k.below
theorem rs5 (h : Aside0 (d.R e w base ok v xs)) (b : Aside0 (w.heap[g]? = some (.cells cs t (0, 0)))) (ht : ∀ q, q ∈ e :: d.E → q ≠ t) : d.R e (((((w.setCell ⟨g, 0, none⟩ v0).setCell ⟨g, 1, none⟩ v1).setCell ⟨g, 2, none⟩ v2).setCell ⟨g, 3, none⟩ v3).setCell ⟨g, 4, none⟩ v4) base ok v xs :=
  Kd.R_mono (rf5 (Kd.R_types h.out b.out ht) (fun _ hk => hk.2)) (fun _ h_ => h_.1)
theorem rs2 (h : Aside0 (d.R e w base ok v xs)) (b : Aside0 (w.heap[g]? = some (.cells cs t (0, 0)))) (ht : ∀ q, q ∈ e :: d.E → q ≠ t) : d.R e ((w.setCell ⟨g, 0, none⟩ v0).setCell ⟨g, 1, none⟩ v1) base ok v xs :=
  Kd.R_mono (rf2 (Kd.R_types h.out b.out ht) (fun _ hk => hk.2)) (fun _ h_ => h_.1)
theorem rs3 (h : Aside0 (d.R e w base ok v xs)) (b : Aside0 (w.heap[g]? = some (.cells cs t (0, 0)))) (ht : ∀ q, q ∈ e :: d.E → q ≠ t) : d.R e (((w.setCell ⟨g, 0, none⟩ v0).setCell ⟨g, 1, none⟩ v1).setCell ⟨g, 2, none⟩ v2) base ok v xs :=
  Kd.R_mono (rf3 (Kd.R_types h.out b.out ht) (fun _ hk => hk.2)) (fun _ h_ => h_.1)
end
end Go.Proofs.Ytcfinlmocgbnbaa.Sq
