/-
  A loop over an iterator that tells two things a round; what a body does that writes one block alone. Each lemma names its conditions.
-/
import Derived.Test.YtcfinlmocgbnbaaXBase
import Derived.Test.YtcfinlmocgbnbaaWMore
set_option linter.unusedVariables false
namespace Go.Proofs.Ytcfinlmocgbnbaa.XB
open Go.RowKit Go.Shelf Go.Proofs.YtcfinlmocgbnbaaW.PrintWords
attribute [local go_sem] Oper.semAt_some
variable {F : Fence} {n : Nat} {P : Program}
theorem assign_two (l r1 r2 d1 d2 p1 p2 t1 t2 : Nat) (pos1 pos2 : String) (v1 v2 : Value) (tmps : Array Value) (W : World) (K : Act → World → Prop) (hp1 : p1 < tmps.size) (hp2 : p2 < tmps.size) (h12 : p1 ≠ p2) (hd : d1 ≠ p2)
    (hK : K { tmps := (((tmps.setIfInBounds p1 v1).setIfInBounds p2 v2).setIfInBounds d1 v1).setIfInBounds d2 v2, defers := [] } W) :
    ((Code.region r1 #[{ dst := some d1, op := Op.assign (Operand.tmp p1), type := t1, pos := pos1, after := #[], guard := none }] false).seq (Code.region r2 #[{ dst := some d2, op := Op.assign (Operand.tmp p2), type := t2, pos := pos2, after := #[], guard := none }] false)).wpIn (F.inRound l) n P (Exit.then K (fun _ _ _ => False)) { tmps := (#[p1, p2].zip #[v1, v2]).foldl (fun t (p, v) => t.setIfInBounds p v) tmps, defers := [] } W := by
  have e : (#[p1, p2].zip #[v1, v2]).foldl (fun t (p, v) => t.setIfInBounds p v) tmps = (tmps.setIfInBounds p1 v1).setIfInBounds p2 v2 := by
    have hz : #[p1, p2].zip #[v1, v2] = #[(p1, v1), (p2, v2)] := by rw [← Array.toList_inj, Array.toList_zip]; rfl
    rw [hz]; simp
  rw [e]
  have hv : (((tmps.setIfInBounds p1 v1).setIfInBounds p2 v2).getD p1 undef) = v1 := by
    simp [h12.symm, hp1]
  have hv2 : ((((tmps.setIfInBounds p1 v1).setIfInBounds p2 v2).setIfInBounds d1 v1).getD p2 undef) = v2 := by
    simp [hd, hp2]
  generalize (tmps.setIfInBounds p1 v1).setIfInBounds p2 v2 = T at *
  have hv' : (T[p1]?).getD undef = v1 := by simpa using hv
  have hv2' : ((T.setIfInBounds d1 v1)[p2]?).getD undef = v2 := by simpa using hv2
  gi_wp2
  exact hK

/-- THE LAW FOR TWO LOOP VARIABLES that no inner function uses. -/
theorem wp_range2 {g : Operand} {p1 p2 d1 d2 r1 r2 ty1 ty2 : Nat} {pos1 pos2 : String} {body : Code} {Q : Exit → Act → World → Prop} {tmps : Array Value} {w : World}
    (hn : 1 ≤ n) {gf : Nat} {lb : Array Value} (hg : ({ tmps := tmps, defers := [] } : Act).eval g = .func (.func gf) #[] lb) (eg : ∀ args w, (callFunc gf args).run P w = .ok (.enter gf args) w)
    (v1 v2 : Nat → Value) (N : Nat) {Start : World → Prop} {Tch Kp : World → World → Prop} (hseq : IterSeq Fence.wide (n - 1) P gf lb (fun k => #[v1 k, v2 k]) N Start Tch Kp)
    (hStart : OwnW w.heap.size Start) (hs0 : Start w) (hT : ∀ A B, Tch A B → KeepsFrom w.heap.size A B)
    (hKt : ∀ {A B C : World}, Kp A B → Kp B C → Kp A C) (hKb : ∀ (W : World) (l : Nat) (o o' : Obj), w.heap.size ≤ l → W.heap[l]? = some o → o.isCells = false → Kp W (W.putObj l o')) (hp1 : p1 < tmps.size) (hp2 : p2 < tmps.size) (h12 : p1 ≠ p2) (hd : d1 ≠ p2)
    (I : Nat → World → Prop) (Ix : Code → Nat → World → Prop) (hI : ∀ k, OwnW w.heap.size (I k)) (hIx : ∀ c k, OwnW w.heap.size (Ix c k))
    (hIT : ∀ k A B, I k A → Tch A B → I k B) (hIxT : ∀ c k A B, Ix c k A → Tch A B → Ix c k B) (h0 : I 0 w)
    (hbody : ∀ (l k : Nat) (W : World), I k W → k < N → body.wpIn (Fence.wide.inRound l) (n - 1 - 1) P (seqPost w.heap.size Kp I Ix (k + 1) W) { tmps := (((tmps.setIfInBounds p1 (v1 k)).setIfInBounds p2 (v2 k)).setIfInBounds d1 (v1 k)).setIfInBounds d2 (v2 k), defers := [] } W)
    (hdone : ∀ (D : Nat) (W : World), w.heap.size ≤ D → I N W → W.heap[D]? = some (.deferred (some [])) → Q .normal { tmps := tmps, defers := [{ target := .collected D, args := #[] }] } W)
    (hstop : ∀ (D : Nat) (c : Code) (k : Nat) (W : World), w.heap.size ≤ D → k ≤ N → Ix c k W → W.heap[D]? = some (.deferred (some [])) → c.wp P Q { tmps := tmps, defers := [{ target := .collected D, args := #[] }] } W) :
    (Code.rangeFunc g #[p1, p2] ((Code.region r1 #[{ dst := some d1, op := Op.assign (Operand.tmp p1), type := ty1, pos := pos1, after := #[], guard := none }] false).seq (Code.region r2 #[{ dst := some d2, op := Op.assign (Operand.tmp p2), type := ty2, pos := pos2, after := #[], guard := none }] false)) body).wp P Q { tmps := tmps, defers := [] } w :=
  wpIn_wide.1 (wpIn_rangeFunc_seq (n := n) rfl hn hg trivial eg hseq hStart hs0 hT hKt hKb (fun _ => rfl) I Ix hI hIx hIT hIxT h0
    (fun k => { tmps := (((tmps.setIfInBounds p1 (v1 k)).setIfInBounds p2 (v2 k)).setIfInBounds d1 (v1 k)).setIfInBounds d2 (v2 k), defers := [] })
    (fun l k W K hK => assign_two l r1 r2 d1 d2 p1 p2 ty1 ty2 pos1 pos2 (v1 k) (v2 k) tmps W K hp1 hp2 h12 hd hK) hbody hdone (fun D c k W h1 h2 h3 h4 => wpIn_wide.2 (hstop D c k W h1 h2 h3 h4)))

/-! ### Worlds that part in one block, and in new ones -/
def Gb (g : Nat) (X Y : World) : Prop := X.grownBy Y (some g)
theorem gb_refl (g : Nat) (X : World) : Gb g X X := ⟨rfl, rfl, rfl, Nat.le_refl _, fun _ _ _ => rfl⟩
theorem gb_trans {g : Nat} {X Y Z : World} (h : Gb g X Y) (k : Gb g Y Z) : Gb g X Z :=
  ⟨k.os.trans h.os, k.tape.trans h.tape, k.output.trans h.output, Nat.le_trans h.size k.size, fun i hi hn => (k.block i (Nat.lt_of_lt_of_le hi h.size) hn).trans (h.block i hi hn)⟩
theorem gb_below {X Y : World} (g : Nat) (h : Below X.heap.size X Y) : Gb g X Y := ⟨h.os, h.tape, h.output, h.size, fun i hi _ => h.block i hi⟩
theorem gb_set {g : Nat} (X : World) (i : Nat) (v : Value) : Gb g X (X.setCell ⟨g, i, none⟩ v) :=
  ⟨rfl, rfl, rfl, by simp [World.setCell], fun j hj hn => Below.heap_setCell X ⟨g, i, none⟩ v j (fun e => hn (congrArg some e))⟩
theorem gb_drew {g : Nat} {X Y : World} (h : Gb g X Y) : Gb g X Y.drew := ⟨h.os, h.tape, h.output, h.size, h.block⟩
theorem gb_drewN {g : Nat} {X Y : World} (h : Gb g X Y) (n : Nat) : Gb g X (Y.drewN n) := ⟨h.os, h.tape, h.output, h.size, h.block⟩
theorem gb_same {g j : Nat} {X Y : World} {o : Obj} (h : Gb g X Y) (hj : X.heap[j]? = some o) (hn : j ≠ g) : Y.heap[j]? = some o := (h.block j (blk_lt hj) (fun e => hn (by injection e))).trans hj
theorem gb_toBelow {g B : Nat} {X Y : World} (h : Gb g X Y) (hB : B ≤ X.heap.size) (hg : B ≤ g) : Below B X Y := ⟨h.os, h.tape, h.output, h.size, fun i hi => h.block i (Nat.lt_of_lt_of_le hi hB) (fun e => by injection e with e; omega)⟩
theorem gb_keeps {g B : Nat} {X Y : World} {cs : Array Value} {t : TypeId} {fr : Nat × Nat} (h : Gb g X Y) (hg : X.heap[g]? = some (.cells cs t fr)) : KeepsFrom B X Y :=
  ⟨h.size, fun k o _ hk hc => gb_same h hk (by rintro rfl; rw [hg] at hk; cases hk; cases hc)⟩
theorem gb_setRow {g : Nat} {X : World} (cs : Array Value) : Gb g X (X.setRow g cs) :=
  ⟨rfl, rfl, rfl, by simp [World.setRow], fun j hj hn => by
    have h : g ≠ j := fun e => hn (by rw [e])
    simp [World.setRow, Array.getElem?_modify, h]⟩
end Go.Proofs.Ytcfinlmocgbnbaa.XB
