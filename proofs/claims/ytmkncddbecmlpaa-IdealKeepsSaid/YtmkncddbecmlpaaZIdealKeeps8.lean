/-
  A part of what the row IdealKeeps reaches, laid together by a program of this session (wip/tools/shake.py) out of this seat's texts. No condition but the ones that each lemma names.
-/
import Derived.Laws.BitsLemmas
import Derived.OpenShut
import Derived.ProofKit
import Derived.DataElems
import Derived.Test.YtmkncddbecmlpaaZIdealKeeps1
import Derived.Test.YtmkncddbecmlpaaZIdealKeeps3
import Derived.Test.YtmkncddbecmlpaaZIdealKeeps4
import Derived.Test.YtmkncddbecmlpaaZIdealKeeps5
import Derived.Test.YtmkncddbecmlpaaZIdealKeeps6
set_option linter.unusedVariables false
set_option linter.unusedSimpArgs false
section
set_option linter.unusedVariables false
namespace Go.Proofs.Ytmkncddbecmlpaa.Pr
open Go.RowKit Go.Proofs.YtmkncddbecmlpaaW.PrintWords Go.Proofs.YtmkncddbecmlpaaW.PrintLast Go.Proofs.YtmkncddbecmlpaaW.PrintMore
def rightB (b : ByteArray) (p : Int) : Bool := decide ((b.size : Int) ≤ 65536 ∧ 0 ≤ p ∧ p ≤ (b.size : Int))
def takeP (b : ByteArray) (p n : Int) : ByteArray × ByteArray × Int × Int :=
  if rightB b p = true ∧ 0 ≤ n then (if n > (b.size : Int) - p then (⟨#[]⟩, b, p, 12) else (b.extract p.toNat (p + n).toNat, b, p + n, 0)) else (⟨#[]⟩, b, p, 1)
theorem takeP_ok {b : ByteArray} {p n : Int} (h : rightB b p = true) (h0 : 0 ≤ n) (hl : n ≤ (b.size : Int) - p) : takeP b p n = (b.extract p.toNat (p + n).toNat, b, p + n, 0) := by
  unfold takeP; rw [if_pos ⟨h, h0⟩, if_neg (by omega)]
theorem takeP_short {b : ByteArray} {p n : Int} (h : rightB b p = true) (h0 : 0 ≤ n) (hl : n > (b.size : Int) - p) : takeP b p n = (⟨#[]⟩, b, p, 12) := by
  unfold takeP; rw [if_pos ⟨h, h0⟩, if_pos hl]
theorem takeP_bad {b : ByteArray} {p n : Int} (h : ¬ (rightB b p = true ∧ 0 ≤ n)) : takeP b p n = (⟨#[]⟩, b, p, 1) := by
  unfold takeP; rw [if_neg h]
theorem right_eq (b : ByteArray) (p : Int) : tape_Right.f b p = some (rightB b p) := by
  unfold tape_Right.f rightB
  by_cases h1 : (b.size : Int) ≤ 65536
  · by_cases h2 : p ≥ 0
    · rw [if_pos h1, if_pos h2]; simp [h1]; omega
    · rw [if_pos h1, if_neg h2]; simp; omega
  · rw [if_neg h1]; simp; omega
theorem rightB_iff {b : ByteArray} {p : Int} : rightB b p = true ↔ ((b.size : Int) ≤ 65536 ∧ 0 ≤ p ∧ p ≤ (b.size : Int)) := by unfold rightB; simp
def leftP (b : ByteArray) (p : Int) : Int := if rightB b p = true then (b.size : Int) - p else 0
theorem left_eq (b : ByteArray) (p : Int) : tape_Left.f b p = some (leftP b p) := by
  unfold tape_Left.f leftP
  rw [right_eq]
  simp only [Option.bind_some]
  by_cases h : rightB b p = true
  · rw [if_pos h, if_pos h]
    obtain ⟨h1, h2, h3⟩ := rightB_iff.1 h
    congr 1
    unfold wrap64; omega
  · rw [if_neg h, if_neg h]
theorem extract_twice (b : ByteArray) (i n : Nat) (h : i + n ≤ b.size) : (b.extract i b.size).extract 0 n = b.extract i (i + n) := by
  rw [ByteArray.extract_extract]
  congr 1 <;> omega
theorem extract_size' (b : ByteArray) (i j : Nat) (h : j ≤ b.size) : (b.extract i j).size = j - i := by
  rw [ByteArray.size_extract]; omega
theorem take_eq (b : ByteArray) (p n : Int) (k : Nat) : tape_Take.f (k + 1) b p n = some (takeP b p n) := by
  unfold tape_Take.f
  rw [right_eq]
  simp only [Option.bind_some]
  by_cases h : rightB b p = true
  · obtain ⟨h1, h2, h3⟩ := rightB_iff.1 h
    rw [if_pos h]
    simp only [tape_Take.j0]
    by_cases hn : n < 0
    · rw [if_pos (decide_eq_true hn), takeP_bad (by omega)]
    · rw [if_neg (by simpa using hn), left_eq]
      simp only [Option.bind_some]
      have hL : leftP b p = (b.size : Int) - p := if_pos h
      rw [hL]
      by_cases hl : n > (b.size : Int) - p
      · rw [if_pos hl, takeP_short h (by omega) hl]
      · have e1 : (p.toNat : Int) = p := Int.toNat_of_nonneg h2
        have e2 : (n.toNat : Int) = n := Int.toNat_of_nonneg (by omega)
        rw [if_neg hl, if_pos h2, if_pos h3, if_pos (by omega), if_pos (by rw [extract_size' _ _ _ (Nat.le_refl _)]; omega)]
        rw [extract_twice b p.toNat n.toNat (by omega), show p.toNat + n.toNat = (p + n).toNat from by omega, show wrap64 (p + n) = p + n from by unfold wrap64; omega, takeP_ok h (by omega) (by omega)]
  · rw [if_neg h]
    simp only [tape_Take.j0]
    rw [if_pos (by simpa using h), takeP_bad (by simp [h])]
end Go.Proofs.Ytmkncddbecmlpaa.Pr
end
section
set_option linter.unusedVariables false
namespace Go.Proofs.Ytmkncddbecmlpaa.Pr
open Go.RowKit Go.Proofs.YtmkncddbecmlpaaW.PrintWords Go.Proofs.YtmkncddbecmlpaaW.PrintLast Go.Proofs.YtmkncddbecmlpaaW.PrintMore
theorem tapeP_eq (b : ByteArray) (a : Int) : tapeP b a = rightB b a := by
  unfold tapeP rightB
  by_cases h1 : (b.size : Int) ≤ 65536 <;> by_cases h2 : a ≥ 0 <;> by_cases h3 : a ≤ (b.size : Int) <;> simp [h1, h2, h3] <;> omega
structure RightS (b : ByteArray) (a : Int) (ns : List S72) (cs : List S74) (cl : Bool) : Prop where
  tape : rightB b a = true
  len : ns.length ≤ 2000 ∧ cs.length ≤ 2000
  names : ∀ n ∈ ns, n.f0.size ≤ 100 ∧ n.f1.size = 16
  cells : ∀ c ∈ cs, c.f0.size = 16 ∧ c.f1.size = 24 ∧ c.f2.size = 40
  dn : (ns.map fun n => n.f0).Nodup
  dc : (cs.map fun c => (c.f0, c.f1)).Nodup
  clash : cl = clashP ns cs
theorem oddName_iff (n : S72) : oddName n = false ↔ n.f0.size ≤ 100 ∧ n.f1.size = 16 := by
  unfold oddName; simp; omega
theorem oddCell_iff (c : S74) : oddCell c = false ↔ c.f0.size = 16 ∧ c.f1.size = 24 ∧ c.f2.size = 40 := by
  unfold oddCell; simp; omega
theorem dup_iff {κ : Type} [DecidableEq κ] (l : List κ) : dup l = false ↔ l.Nodup := by unfold dup; simp
theorem rightP_iff {b : ByteArray} {a : Int} {ns : List S72} {cs : List S74} {cl : Bool} : rightP b a ns cs cl = true ↔ RightS b a ns cs cl := by
  unfold rightP
  rw [tapeP_eq]
  simp only [Bool.and_eq_true, Bool.not_eq_true', decide_eq_true_eq, beq_iff_eq, dup_iff, List.any_eq_false]
  constructor
  · rintro ⟨⟨⟨⟨⟨⟨h1, h2⟩, h3⟩, h4⟩, h5⟩, h6⟩, h7⟩
    exact ⟨h1, h2, fun n hn => (oddName_iff n).1 (by simpa using h3 n hn), fun c hc => (oddCell_iff c).1 (by simpa using h4 c hc), h5, h6, h7⟩
  · rintro ⟨h1, h2, h3, h4, h5, h6, h7⟩
    exact ⟨⟨⟨⟨⟨⟨h1, h2⟩, fun n hn => by simpa using (oddName_iff n).2 (h3 n hn)⟩, fun c hc => by simpa using (oddCell_iff c).2 (h4 c hc)⟩, h5⟩, h6⟩, h7⟩
def cut (b : ByteArray) (a n : Int) : ByteArray := b.extract a.toNat (a + n).toNat
theorem cut_size {b : ByteArray} {a n : Int} (h0 : 0 ≤ a) (hn : 0 ≤ n) (h : a + n ≤ (b.size : Int)) : ((cut b a n).size : Int) = n := by
  unfold cut
  rw [extract_size' _ _ _ (by omega)]
  omega
theorem own_eq {b : ByteArray} {a : Int} {ns : List S72} {cs : List S74} {cl : Bool} (hl : ns.length ≤ 2000 ∧ cs.length ≤ 2000) : ideal_own.f b a ns cs cl = some (b, a, ns, cs, cl) := by
  unfold ideal_own.f api_Name_69.f api_Made_70.f
  rw [if_pos (by omega)]
  simp only [Option.bind_some]
  rw [if_pos (by omega)]
  rfl
section
variable {b : ByteArray} {a : Int} {ns : List S72} {cs : List S74} {cl : Bool}
theorem RightS.name (h : RightS b a ns cs cl) {t : ByteArray} (ht : t.size ≤ 100) (hlen : ns.length < 2000) (hnew : ∀ n ∈ ns, n.f0 ≠ t) (hroom : a + 16 ≤ (b.size : Int)) :
    RightS b (a + 16) (ns ++ [⟨t, cut b a 16⟩]) cs (clashP (ns ++ [⟨t, cut b a 16⟩]) cs) where
  tape := by have := rightB_iff.1 h.tape; exact rightB_iff.2 ⟨this.1, by omega, hroom⟩
  len := ⟨by simp; omega, h.len.2⟩
  names n hn := by
    rcases List.mem_append.1 hn with hn | hn
    · exact h.names n hn
    · obtain rfl := List.mem_singleton.1 hn
      have := cut_size (rightB_iff.1 h.tape).2.1 (by omega) hroom
      exact ⟨ht, by simp only; omega⟩
  cells := h.cells
  dn := by
    rw [List.map_append, List.nodup_append]
    refine ⟨h.dn, by simp, ?_⟩
    intro x hx y hy
    obtain ⟨n, hn, rfl⟩ := List.mem_map.1 hx
    simp at hy
    subst hy
    exact hnew n hn
  dc := h.dc
  clash := rfl
theorem RightS.cell (h : RightS b a ns cs cl) {l t : ByteArray} (hl : l.size = 16) (ht : t.size = 24) (hlen : cs.length < 2000) (hnew : ∀ c ∈ cs, ¬ (c.f0 = l ∧ c.f1 = t)) (hroom : a + 40 ≤ (b.size : Int)) :
    RightS b (a + 40) ns (cs ++ [⟨l, t, cut b a 40⟩]) (clashP ns (cs ++ [⟨l, t, cut b a 40⟩])) where
  tape := by have := rightB_iff.1 h.tape; exact rightB_iff.2 ⟨this.1, by omega, hroom⟩
  len := ⟨h.len.1, by simp; omega⟩
  names := h.names
  cells n hn := by
    rcases List.mem_append.1 hn with hn | hn
    · exact h.cells n hn
    · obtain rfl := List.mem_singleton.1 hn
      have := cut_size (rightB_iff.1 h.tape).2.1 (by omega) hroom
      exact ⟨hl, ht, by simp only; omega⟩
  dn := h.dn
  dc := by
    rw [List.map_append, List.nodup_append]
    refine ⟨h.dc, by simp, ?_⟩
    intro x hx y hy
    obtain ⟨n, hn, rfl⟩ := List.mem_map.1 hx
    simp at hy
    subst hy
    intro e
    exact hnew n hn (by simpa using e)
  clash := rfl
theorem fnd_none {α : Type} {z : α} {p : α → Bool} {xs : List α} (h : ∀ x ∈ xs, p x = false) : fnd z p xs = (z, false) := by
  unfold fnd
  rw [List.find?_eq_none.2 (fun x hx => by simp [h x hx])]
theorem fnd_some {α : Type} {z : α} {p : α → Bool} {xs : List α} {x : α} (hx : x ∈ xs) (hp : p x = true) : ∃ y ∈ xs, p y = true ∧ fnd z p xs = (y, true) := by
  unfold fnd
  cases h : xs.find? p with
  | none => exact absurd hp (by rw [List.find?_eq_none] at h; exact h x hx)
  | some y => exact ⟨y, List.mem_of_find?_eq_some h, List.find?_some h, rfl⟩
theorem nodup_map {α β : Type} {f : α → β} : ∀ {xs : List α}, (xs.map f).Nodup → ∀ {x y : α}, x ∈ xs → y ∈ xs → f x = f y → x = y
  | [], _, _, _, hx, _, _ => by cases hx
  | z :: zs, h, x, y, hx, hy, e => by
    simp only [List.map_cons, List.nodup_cons] at h
    rcases List.mem_cons.1 hx with rfl | hx' <;> rcases List.mem_cons.1 hy with rfl | hy'
    · rfl
    · exact absurd (by rw [e]; exact List.mem_map_of_mem hy') h.1
    · exact absurd (by rw [← e]; exact List.mem_map_of_mem hx') h.1
    · exact nodup_map h.2 hx' hy' e
theorem label_new (h : RightS b a ns cs cl) {t : ByteArray} (ht : t.size ≤ 100) (hlen : ns.length < 2000) (hnew : ∀ n ∈ ns, n.f0 ≠ t) (hroom : a + 16 ≤ (b.size : Int)) (k : Nat) :
    ideal_Label.f (k + 2) b a ns cs cl t = some (cut b a 16, b, a + 16, ns ++ [⟨t, cut b a 16⟩], cs, clashP (ns ++ [⟨t, cut b a 16⟩]) cs, 0) := by
  unfold ideal_Label.f
  rw [own_eq h.len]
  simp only [Option.bind_some]
  unfold ideal_Right.f
  rw [rightP_iff.2 h]
  simp only [Option.bind_some, if_pos]
  simp only [ideal_Label.j0]
  have h1 : decide ((t.size : Int) > 100) = false := by simp; omega
  rw [h1, if_neg (by simp)]
  unfold ideal_find_51.f
  rw [fnd_none (fun n hn => by simpa using hnew n hn)]
  simp only [Option.bind_some]
  rw [if_neg (by simp), if_neg (by omega), take_eq, takeP_ok h.tape (by omega) (by omega)]
  simp only [Option.bind_some]
  rw [if_pos trivial, own_eq h.len]
  simp only [Option.bind_some]
  rw [if_pos (by have := h.len.1; omega)]
  unfold ideal_clash.f
  simp only [Option.bind_some]
  rfl
theorem label_old (h : RightS b a ns cs cl) {t : ByteArray} (ht : t.size ≤ 100) {n : S72} (hn : n ∈ ns) (e : n.f0 = t) (k : Nat) :
    ideal_Label.f (k + 1) b a ns cs cl t = some (n.f1, b, a, ns, cs, cl, 0) := by
  unfold ideal_Label.f
  rw [own_eq h.len]
  simp only [Option.bind_some]
  unfold ideal_Right.f
  rw [rightP_iff.2 h]
  simp only [Option.bind_some, if_pos]
  simp only [ideal_Label.j0]
  have h1 : decide ((t.size : Int) > 100) = false := by simp; omega
  rw [h1, if_neg (by simp)]
  unfold ideal_find_51.f
  obtain ⟨y, hy, hp, hf⟩ := fnd_some (z := z72) (p := fun n => decide (n.f0 = t)) hn (by simpa using e)
  rw [hf]
  simp only [Option.bind_some]
  rw [if_pos trivial]
  have : y = n := nodup_map h.dn hy hn (by simp at hp; rw [hp, e])
  rw [this]
theorem seal_new (h : RightS b a ns cs cl) {l t : ByteArray} (hl : l.size = 16) (ht : t.size = 24) (hlen : cs.length < 2000) (hnew : ∀ c ∈ cs, ¬ (c.f0 = l ∧ c.f1 = t)) (hroom : a + 40 ≤ (b.size : Int)) (k : Nat) :
    ideal_Seal.f (k + 2) b a ns cs cl l t = some (cut b a 40, b, a + 40, ns, cs ++ [⟨l, t, cut b a 40⟩], clashP ns (cs ++ [⟨l, t, cut b a 40⟩]), 0) := by
  unfold ideal_Seal.f
  rw [own_eq h.len]
  simp only [Option.bind_some]
  unfold ideal_Right.f
  rw [rightP_iff.2 h]
  simp only [Option.bind_some, if_pos]
  rw [if_pos (by omega)]
  simp only [ideal_Seal.j0]
  have h1 : ((t.size : Int) != 24) = false := by simp; omega
  rw [h1, if_neg (by simp)]
  unfold ideal_find_66.f
  rw [fnd_none (fun n hn => by have := hnew n hn; by_cases e : n.f0 = l <;> simp_all)]
  simp only [Option.bind_some]
  rw [if_neg (by simp), if_neg (by omega), take_eq, takeP_ok h.tape (by omega) (by omega)]
  simp only [Option.bind_some]
  rw [if_pos trivial, own_eq h.len]
  simp only [Option.bind_some]
  rw [if_pos (by have := h.len.2; omega)]
  unfold ideal_clash.f
  simp only [Option.bind_some]
  rfl
theorem seal_old (h : RightS b a ns cs cl) {l t : ByteArray} (hl : l.size = 16) (ht : t.size = 24) {c : S74} (hc : c ∈ cs) (e1 : c.f0 = l) (e2 : c.f1 = t) (k : Nat) :
    ideal_Seal.f (k + 1) b a ns cs cl l t = some (c.f2, b, a, ns, cs, cl, 0) := by
  unfold ideal_Seal.f
  rw [own_eq h.len]
  simp only [Option.bind_some]
  unfold ideal_Right.f
  rw [rightP_iff.2 h]
  simp only [Option.bind_some, if_pos]
  rw [if_pos (by omega)]
  simp only [ideal_Seal.j0]
  have h1 : ((t.size : Int) != 24) = false := by simp; omega
  rw [h1, if_neg (by simp)]
  unfold ideal_find_66.f
  obtain ⟨y, hy, hp, hf⟩ := fnd_some (z := z74) (p := fun n => decide (n.f0 = l) && decide (n.f1 = t)) hc (by simp [e1, e2])
  rw [hf]
  simp only [Option.bind_some]
  rw [if_pos trivial]
  have : y = c := nodup_map h.dc hy hc (by simp at hp; simp [hp, e1, e2])
  rw [this]
theorem open_eq (h : RightS b a ns cs cl) (l x : ByteArray) : ideal_Open.f b a ns cs cl l x = some (match cs.find? (fun n => decide (n.f0 = l) && decide (n.f2 = x)) with | some c => (c.f1, 0) | none => (⟨#[]⟩, 11)) := by
  unfold ideal_Open.f
  unfold ideal_Right.f
  rw [rightP_iff.2 h]
  simp only [Option.bind_some, if_pos]
  unfold ideal_find_67.f fnd
  cases hf : cs.find? (fun n => decide (n.f0 = l) && decide (n.f2 = x)) with
  | none => simp
  | some y => simp
theorem new_eq (h : rightB b a = true) : ideal_New.f b a = some (b, a, [], [], false, 0) := by
  unfold ideal_New.f
  rw [right_eq, h]
  rfl
theorem new_right (h : rightB b a = true) : RightS b a [] [] false where
  tape := h
  len := by simp
  names := by simp
  cells := by simp
  dn := by simp
  dc := by simp
  clash := by rfl
end
end Go.Proofs.Ytmkncddbecmlpaa.Pr
end
section
set_option linter.unusedVariables false
namespace Go.Proofs.Ytmkncddbecmlpaa.Pr
open Go.RowKit Go.Proofs.YtmkncddbecmlpaaW.PrintWords Go.Proofs.YtmkncddbecmlpaaW.PrintLast Go.Proofs.YtmkncddbecmlpaaW.PrintMore
section
variable {b : ByteArray} {a : Int} {ns : List S72} {cs : List S74} {cl : Bool}
theorem same_l1 (hl : cs.length ≤ 2000) : ∀ (d i k : Nat), i + d = cs.length → d < k → columbariumref08_Same.l1 k i b a ns cs cl b a ns cs cl = some true := by
  intro d
  induction d with
  | zero =>
    intro i k h hk
    obtain ⟨k, rfl⟩ : ∃ m, k = m + 1 := ⟨k - 1, by omega⟩
    simp only [columbariumref08_Same.l1]
    rw [if_neg (by omega)]
  | succ d ih =>
    intro i k h hk
    obtain ⟨k, rfl⟩ : ∃ m, k = m + 1 := ⟨k - 1, by omega⟩
    simp only [columbariumref08_Same.l1]
    rw [if_pos (by omega), if_pos (by omega), if_pos (by omega), if_neg (by simp), show wrap64 ((i : Int) + 1) = ((i + 1 : Nat) : Int) from by unfold wrap64; omega]
    exact ih (i + 1) k (by omega) (by omega)
theorem same_l0 (hl : cs.length ≤ 2000) (hl2 : ns.length ≤ 2000) : ∀ (d i k : Nat), i + d = ns.length → d + cs.length + 1 < k → columbariumref08_Same.l0 k i b a ns cs cl b a ns cs cl = some true := by
  intro d
  induction d with
  | zero =>
    intro i k h hk
    obtain ⟨k, rfl⟩ : ∃ m, k = m + 1 := ⟨k - 1, by omega⟩
    simp only [columbariumref08_Same.l0]
    rw [if_neg (by omega)]
    exact same_l1 hl cs.length 0 k (by omega) (by omega)
  | succ d ih =>
    intro i k h hk
    obtain ⟨k, rfl⟩ : ∃ m, k = m + 1 := ⟨k - 1, by omega⟩
    simp only [columbariumref08_Same.l0]
    rw [if_pos (by omega), if_pos (by omega), if_pos (by omega), if_neg (by simp), show wrap64 ((i : Int) + 1) = ((i + 1 : Nat) : Int) from by unfold wrap64; omega]
    exact ih (i + 1) k (by omega) (by omega)
theorem same_refl (hl : ns.length ≤ 2000 ∧ cs.length ≤ 2000) {k : Nat} (hk : ns.length + cs.length + 2 < k) : columbariumref08_Same.f k b a ns cs cl b a ns cs cl = some true := by
  obtain ⟨k, rfl⟩ : ∃ m, k = m + 1 := ⟨k - 1, by omega⟩
  unfold columbariumref08_Same.f
  rw [if_neg (by simp), if_neg (by simp), if_pos rfl]
  simp only [columbariumref08_Same.j0]
  rw [if_neg (by simp)]
  exact same_l0 hl.2 hl.1 ns.length 0 k (by omega) (by omega)
theorem label_short (h : RightS b a ns cs cl) {t : ByteArray} (ht : t.size ≤ 100) (hlen : ns.length < 2000) (hnew : ∀ n ∈ ns, n.f0 ≠ t) (hroom : ¬ a + 16 ≤ (b.size : Int)) (k : Nat) :
    ideal_Label.f (k + 2) b a ns cs cl t = some (⟨#[]⟩, b, a, ns, cs, cl, 12) := by
  unfold ideal_Label.f
  rw [own_eq h.len]
  simp only [Option.bind_some]
  unfold ideal_Right.f
  rw [rightP_iff.2 h]
  simp only [Option.bind_some, if_pos]
  simp only [ideal_Label.j0]
  have h1 : decide ((t.size : Int) > 100) = false := by simp; omega
  rw [h1, if_neg (by simp)]
  unfold ideal_find_51.f
  rw [fnd_none (fun n hn => by simpa using hnew n hn)]
  simp only [Option.bind_some]
  rw [if_neg (by simp), if_neg (by omega), take_eq, takeP_short h.tape (by omega) (by omega)]
  simp only [Option.bind_some]
  rw [if_neg (by simp)]
end
def tape16 : ByteArray := ⟨#[97, 98, 99, 100, 101, 102, 103, 104, 105, 106, 107, 108, 109, 110, 111, 112]⟩
theorem awake8 (k : Nat) : columbariumlaw08_awake.f (k + 5) = some true := by
  have h0 : rightB tape16 0 = true := by rfl
  have hR := new_right h0
  have hx : ((⟨#[120]⟩ : ByteArray)).size ≤ 100 := by decide
  have hy : ((⟨#[121]⟩ : ByteArray)).size ≤ 100 := by decide
  have hroom : (0 : Int) + 16 ≤ (tape16.size : Int) := by decide
  have hc : cut tape16 0 16 = tape16 := by rfl
  have hR2 := hR.name hx (by simp) (by simp) hroom
  have hL := label_new hR hx (by simp) (by simp) hroom (k + 3)
  rw [hc] at hR2 hL
  unfold columbariumlaw08_awake.f
  show (ideal_New.f tape16 0).bind _ = _
  rw [new_eq h0]
  simp only [Option.bind_some]
  rw [hL]
  simp only [Option.bind_some]
  rw [label_old hR2 hx (List.mem_append_right _ (List.mem_singleton.2 rfl)) rfl]
  simp only [Option.bind_some]
  rw [label_short hR2 hy (by simp) (by simp) (by decide)]
  simp only [Option.bind_some]
  rw [open_eq hR]
  simp only [Option.bind_some]
  have hN : ideal_New.f (⟨#[]⟩ : ByteArray) 1 = some (⟨#[]⟩, 0, [], [], false, 1) := by rfl
  rw [hN]
  simp only [Option.bind_some]
  rw [if_pos trivial, if_pos (by rw [ByteArray.toList_eq]; rfl), if_pos trivial, if_pos trivial, if_pos trivial, same_refl hR2.len (by simp), Option.bind_some]
  simp only [List.find?_nil, if_pos]
  unfold ideal_Right.f
  rw [rightP_iff.2 hR2]
  rfl
theorem pick8 {a n : Int} (hw : (Lit.int .i64 a).wf = true) (hn : 0 < n) : ∃ r, columbariumlaw08_pick.f a n = some r ∧ 0 ≤ r ∧ r < n := by
  unfold columbariumlaw08_pick.f
  have hr : -9223372036854775808 ≤ a ∧ a ≤ 9223372036854775807 := bounds_i64 hw
  by_cases h : a < 0
  · have e1 : wrap64 (a + 1) = a + 1 := by unfold wrap64; omega
    have e2 : wrap64 (-(a + 1)) = -(a + 1) := by unfold wrap64; omega
    rw [if_pos h, if_neg (by omega), e1, e2, Int.tmod_eq_emod_of_nonneg (by omega)]
    exact ⟨_, rfl, Int.emod_nonneg _ (by omega), Int.emod_lt_of_pos _ hn⟩
  · rw [if_neg h, if_neg (by omega), Int.tmod_eq_emod_of_nonneg (by omega)]
    exact ⟨_, rfl, Int.emod_nonneg _ (by omega), Int.emod_lt_of_pos _ hn⟩
theorem rd_wf {xs : List Int} (h : ∀ x ∈ xs, (Lit.int .i64 x).wf = true) {i : Int} (h0 : 0 ≤ i) (h1 : i < xs.length) : (Lit.int .i64 (rd xs i)).wf = true := by
  unfold rd
  have hi : i.toNat < xs.length := by omega
  have : xs.getD i.toNat 0 = xs[i.toNat] := by simp [hi]
  first
  | (rw [this]; exact h _ (List.getElem_mem hi))
  | (simp [hi]; exact h _ (List.getElem_mem hi))
theorem draws8 {x0 : List Int} (hw : ∀ x ∈ x0, (Lit.int .i64 x).wf = true) (hx : x0.length ≤ maxLen) (x1 : Bool) : ∀ (d : Nat) (x5 : List Int) (k : Nat), x5.length + d = 2000 → 2 * d < k → ∃ b, columbariumlaw08_Draws.l0 k x0 x1 x5 x5.length = some (b, 0) ∧ b.size = 2000 := by
  intro d
  induction d with
  | zero =>
    intro x5 k h hk
    obtain ⟨k, rfl⟩ : ∃ m, k = m + 1 := ⟨k - 1, by omega⟩
    simp only [columbariumlaw08_Draws.l0]
    rw [if_neg (by omega)]
    exact ⟨_, rfl, by rw [strOfNums_size]; omega⟩
  | succ d ih =>
    intro x5 k h hk
    obtain ⟨k, rfl⟩ : ∃ m, k = m + 1 + 1 := ⟨k - 2, by omega⟩
    have hnext : ∀ v, ∃ b, columbariumlaw08_Draws.l0 k x0 x1 (x5 ++ [v]) (wrap64 ((x5.length : Int) + 1)) = some (b, 0) ∧ b.size = 2000 := fun v => by
      rw [show wrap64 ((x5.length : Int) + 1) = (((x5 ++ [v]).length : Nat) : Int) from by simp; unfold wrap64; omega]
      exact ih (x5 ++ [v]) k (by simp; omega) (by omega)
    have hj : ∀ x7, ∃ b, columbariumlaw08_Draws.j1 (k + 1) x0 x1 x5 x5.length x7 = some (b, 0) ∧ b.size = 2000 := fun x7 => by
      simp only [columbariumlaw08_Draws.j1]
      have hl : x5.length < 140737488355328 := by omega
      have e8 : wrap64 (Int.tdiv (x5.length : Int) 8) = (x5.length : Int) / 8 := by rw [Int.tdiv_eq_ediv_of_nonneg (by omega)]; unfold wrap64; omega
      cases x1
      · rw [if_neg (by simp), if_pos hl]
        exact hnext _
      · rw [if_pos rfl]
        by_cases h8 : Int.tmod (x5.length : Int) 8 = 0
        · rw [if_pos h8]
          by_cases hp : (x0.length : Int) > 0
          · have hm0 : 0 ≤ Int.tmod (wrap64 (Int.tdiv (x5.length : Int) 8)) (x0.length : Int) := by rw [e8]; exact Int.tmod_nonneg _ (by omega)
            have hm1 : Int.tmod (wrap64 (Int.tdiv (x5.length : Int) 8)) (x0.length : Int) < (x0.length : Int) := by rw [e8]; exact Int.tmod_lt_of_pos _ hp
            rw [if_pos hp, if_neg (by omega), if_pos hm0, if_pos hm1]
            obtain ⟨r, hr, _⟩ := pick8 (rd_wf hw hm0 hm1) (n := 3) (by omega)
            rw [hr]
            simp only [Option.bind_some]
            rw [if_pos hl]
            exact hnext _
          · rw [if_neg hp, if_pos hl]
            exact hnext _
        · rw [if_neg h8, if_pos hl]
          exact hnext _
    simp only [columbariumlaw08_Draws.l0]
    rw [if_pos (by omega)]
    by_cases hp : (x0.length : Int) > 0
    · have hm0 : 0 ≤ Int.tmod (x5.length : Int) (x0.length : Int) := Int.tmod_nonneg _ (by omega)
      have hm1 : Int.tmod (x5.length : Int) (x0.length : Int) < (x0.length : Int) := Int.tmod_lt_of_pos _ hp
      rw [if_pos hp, if_neg (by omega), if_pos hm0, if_pos hm1]
      obtain ⟨r, hr, _⟩ := pick8 (rd_wf hw hm0 hm1) (n := 256) (by omega)
      rw [hr]
      simp only [Option.bind_some]
      exact hj _
    · rw [if_neg hp]
      exact hj _
theorem draws_eq {x0 : List Int} (hw : ∀ x ∈ x0, (Lit.int .i64 x).wf = true) (hx : x0.length ≤ maxLen) (x1 : Bool) {k : Nat} (hk : 4000 < k) : ∃ b, columbariumlaw08_Draws.f k x0 x1 = some (b, 0) ∧ b.size = 2000 :=
  draws8 hw hx x1 2000 [] k rfl (by omega)
theorem sn_append (xs ys : List Int) : strOfNums xs ++ strOfNums ys = strOfNums (xs ++ ys) := by
  apply ByteArray.ext
  simp [strOfNums, ByteArray.data_append]
theorem label8 {a : Int} (hw : (Lit.int .i64 a).wf = true) : ∃ r, columbariumlaw08_pick.f a 4 = some r ∧ 0 ≤ r ∧ r < 4 ∧ columbariumlaw08_Label.f a = some (strOfNums ([108, r] ++ List.replicate 14 0)) := by
  obtain ⟨r, hr, h0, h1⟩ := pick8 hw (n := 4) (by omega)
  refine ⟨r, hr, h0, h1, ?_⟩
  unfold columbariumlaw08_Label.f
  rw [hr]
  simp only [Option.bind_some]
  rw [if_pos (by decide), if_pos (by rw [strOfNums_size, strOfNums_size]; simp), sn_append, show r % 256 = r from by omega]
theorem text8 {a : Int} (hw : (Lit.int .i64 a).wf = true) : ∃ r, columbariumlaw08_pick.f a 5 = some r ∧ 0 ≤ r ∧ r < 5 ∧ columbariumlaw08_Text.f a = some (strOfNums ([r] ++ List.replicate 23 0)) := by
  obtain ⟨r, hr, h0, h1⟩ := pick8 hw (n := 5) (by omega)
  refine ⟨r, hr, h0, h1, ?_⟩
  unfold columbariumlaw08_Text.f
  rw [hr]
  simp only [Option.bind_some]
  rw [if_pos (by decide), if_pos (by rw [strOfNums_size, strOfNums_size]; simp), sn_append, show r % 256 = r from by omega]
end Go.Proofs.Ytmkncddbecmlpaa.Pr
end
section
set_option linter.unusedVariables false
namespace Go.Proofs.Ytmkncddbecmlpaa.Pr
open Go.RowKit Go.Proofs.YtmkncddbecmlpaaW.PrintWords Go.Proofs.YtmkncddbecmlpaaW.PrintLast Go.Proofs.YtmkncddbecmlpaaW.PrintMore
structure Inv8 (i : Nat) (b : ByteArray) (a : Int) (ns : List S72) (cs : List S74) (cl : Bool) : Prop where
  right : RightS b a ns cs cl
  size : b.size = 2000
  taken : a = 16 * (ns.length : Int) + 40 * (cs.length : Int)
  many : ns.length + cs.length ≤ i
theorem Inv8.start {b : ByteArray} (hb : b.size = 2000) : Inv8 0 b 0 [] [] false :=
  ⟨new_right (rightB_iff.2 ⟨by omega, by omega, by omega⟩), hb, by simp, by simp⟩
section
variable {i : Nat} {b : ByteArray} {a : Int} {ns : List S72} {cs : List S74} {cl : Bool}
theorem Inv8.more (h : Inv8 i b a ns cs cl) {j : Nat} (hj : i ≤ j) : Inv8 j b a ns cs cl := ⟨h.right, h.size, h.taken, by have := h.many; omega⟩
theorem label_step (h : Inv8 i b a ns cs cl) (hi : i < 15) {t : ByteArray} (ht : t.size ≤ 100) :
    ∃ s a' ns' cl', (∀ k, ideal_Label.f (k + 2) b a ns cs cl t = some (s, b, a', ns', cs, cl', 0)) ∧ Inv8 (i + 1) b a' ns' cs cl' ∧ (⟨t, s⟩ : S72) ∈ ns' ∧ (∀ n ∈ ns, n ∈ ns') ∧ (∀ n ∈ ns', n ∈ ns ∨ n = ⟨t, s⟩) := by
  have hm := h.many
  have hs := h.size
  have htk := h.taken
  by_cases he : ∃ n ∈ ns, n.f0 = t
  · obtain ⟨n, hn, e⟩ := he
    exact ⟨n.f1, a, ns, cl, fun k => label_old h.right ht hn e (k + 1), h.more (by omega), by subst e; exact hn, fun _ h => h, fun _ h => .inl h⟩
  · have hnew : ∀ n ∈ ns, n.f0 ≠ t := fun n hn e => he ⟨n, hn, e⟩
    have hroom : a + 16 ≤ (b.size : Int) := by omega
    refine ⟨_, _, _, _, fun k => label_new h.right ht (by omega) hnew hroom k, ⟨h.right.name ht (by omega) hnew hroom, hs, by simp; omega, by simp; omega⟩, List.mem_append_right _ (List.mem_singleton.2 rfl), fun n hn => List.mem_append_left _ hn, fun n hn => ?_⟩
    rcases List.mem_append.1 hn with hn | hn
    · exact .inl hn
    · exact .inr (List.mem_singleton.1 hn)
theorem seal_step (h : Inv8 i b a ns cs cl) (hi : i < 15) {l t : ByteArray} (hl : l.size = 16) (ht : t.size = 24) :
    ∃ s a' cs' cl', (∀ k, ideal_Seal.f (k + 2) b a ns cs cl l t = some (s, b, a', ns, cs', cl', 0)) ∧ Inv8 (i + 1) b a' ns cs' cl' ∧ (⟨l, t, s⟩ : S74) ∈ cs' ∧ (∀ c ∈ cs, c ∈ cs') ∧ (∀ c ∈ cs', c ∈ cs ∨ c = ⟨l, t, s⟩) := by
  have hm := h.many
  have hs := h.size
  have htk := h.taken
  by_cases he : ∃ c ∈ cs, c.f0 = l ∧ c.f1 = t
  · obtain ⟨c, hc, e1, e2⟩ := he
    exact ⟨c.f2, a, cs, cl, fun k => seal_old h.right hl ht hc e1 e2 (k + 1), h.more (by omega), by subst e1; subst e2; exact hc, fun _ h => h, fun _ h => .inl h⟩
  · have hnew : ∀ c ∈ cs, ¬ (c.f0 = l ∧ c.f1 = t) := fun c hc e => he ⟨c, hc, e⟩
    have hroom : a + 40 ≤ (b.size : Int) := by omega
    refine ⟨_, _, _, _, fun k => seal_new h.right hl ht (by omega) hnew hroom k, ⟨h.right.cell hl ht (by omega) hnew hroom, hs, by simp; omega, by simp; omega⟩, List.mem_append_right _ (List.mem_singleton.2 rfl), fun n hn => List.mem_append_left _ hn, fun n hn => ?_⟩
    rcases List.mem_append.1 hn with hn | hn
    · exact .inl hn
    · exact .inr (List.mem_singleton.1 hn)
end
theorem tl_eq (x y : ByteArray) : x.toList = y.toList ↔ x = y := by
  have := str_eq x y
  by_cases h : x = y
  · simp [h]
  · simp only [h, decide_false, beq_eq_false_iff_ne] at this
    simp [h, this]
end Go.Proofs.Ytmkncddbecmlpaa.Pr
end
section
set_option linter.unusedVariables false
namespace Go.Proofs.Ytmkncddbecmlpaa.Pr
open Go.RowKit Go.Proofs.YtmkncddbecmlpaaW.PrintWords Go.ChangeShapes Go.WideShapes Go.ChangeAt
def wf46 (l : List S46) : Prop := ∀ x ∈ l, (Lit.int .i64 x.f0).wf = true ∧ (Lit.int .i64 x.f1).wf = true ∧ (Lit.int .i64 x.f2).wf = true
theorem rd46_wf {l : List S46} (h : wf46 l) {i : Int} (h0 : 0 ≤ i) (h1 : i < l.length) : (Lit.int .i64 (rd_T46 l i).f0).wf = true ∧ (Lit.int .i64 (rd_T46 l i).f1).wf = true ∧ (Lit.int .i64 (rd_T46 l i).f2).wf = true := by
  have hi : i.toNat < l.length := by omega
  have : rd_T46 l i = l[i.toNat] := by unfold rd_T46; simp [hi]
  rw [this]
  exact h _ (List.getElem_mem hi)
section
variable {H : Type} {enc : TypeId × Value → H} {w : World} {base : Nat} {spare : Nat → Bool} {held : Bool} {fuel : Nat}
set_option maxRecDepth 100000 in
theorem open_46 {cs : List Value} {x : DataW H × List MemPlace} (h : DataW.trod enc Try.prog w base spare held fuel 46 cs = some x) :
    ∃ s : S46, cs = [.int .i64 s.f0, .int .i64 s.f1, .int .i64 s.f2] ∧ (Lit.int .i64 s.f0).wf = true ∧ (Lit.int .i64 s.f1).wf = true ∧ (Lit.int .i64 s.f2).wf = true := by
  obtain ⟨xs, m, rfl, rfl, hl, hx, he⟩ := DataW.trod_array Try.underlying46 h
  have hc : Try.prog.cellsOf 46 = 3 := by kernel_rfl
  have hc3 : Try.prog.cellsOf 3 = 1 := by kernel_rfl
  rw [hc] at hl
  match cs, hl with
  | [u0, u1, u2], _ =>
    have g : ∀ i, (hi : i < 3) → ∃ n, ((([u0, u1, u2] : List Value).drop (i * 1)).take 1) = [.int .i64 n] ∧ (Lit.int .i64 n).wf = true := fun i hi => by
      have := he i hi
      rw [hc3, List.getElem?_eq_getElem (by omega)] at this
      obtain ⟨n, e, _, hw⟩ := DataW.trod_int Try.underlying3 this
      exact ⟨n, e, hw⟩
    obtain ⟨n0, e0, w0⟩ := g 0 (by omega)
    obtain ⟨n1, e1, w1⟩ := g 1 (by omega)
    obtain ⟨n2, e2, w2⟩ := g 2 (by omega)
    simp at e0 e1 e2
    subst e0
    subst e1
    subst e2
    exact ⟨⟨n0, n1, n2⟩, rfl, w0, w1, w2⟩
theorem open_rows46 {a : Option Addr} {len cap : Nat} {d : DataW H} {p : List MemPlace} (h : DataW.Trod enc Try.prog w base spare held 45 (.slice a len cap) d p) :
    ∃ l : List S46, len = l.length ∧ Kd.C k46 w a l.length l ∧ l.length ≤ cap ∧ l.length ≤ maxLen ∧ wf46 l := by
  obtain ⟨fuel, hf⟩ := h
  have hc : Try.prog.cellsOf 46 = 3 := by kernel_rfl
  rcases DataW.trod_slice Try.underlying45 hf with ⟨hcs, _⟩ | ⟨ad, l, c, elems, rest, n, rfl, hcs, _, _, hlc, hcm, hel, hcell, _⟩
  · simp [Value.cells] at hcs
    obtain ⟨rfl, rfl, rfl⟩ := hcs
    exact ⟨[], rfl, ⟨rfl, by simp, fun h => absurd h (by simp)⟩, by simp, by simp, fun x hx => by cases hx⟩
  · simp [Value.cells] at hcs
    obtain ⟨rfl, rfl, rfl⟩ := hcs
    rw [hc] at hcell
    have each : ∀ i, i < len → ∃ s : S46, (∀ j u, ([.int .i64 s.f0, .int .i64 s.f1, .int .i64 s.f2] : List Value)[j]? = some u → w.cell? (ad.add (i * 3 + j)) = some u) ∧ (Lit.int .i64 s.f0).wf = true ∧ (Lit.int .i64 s.f1).wf = true ∧ (Lit.int .i64 s.f2).wf = true := fun i hi => by
      have h1 := hcell i hi
      rw [List.getElem?_eq_getElem (by omega), Option.bind_eq_some_iff] at h1
      obtain ⟨cs, h2, h3⟩ := h1
      obtain ⟨s, rfl, w0, w1, w2⟩ := open_46 h3
      refine ⟨s, fun j u hj => ?_, w0, w1, w2⟩
      have h4 := (World.cells?_some h2).2.2 j (by
        have := (List.getElem?_eq_some_iff.1 hj).1
        simpa using this)
      rw [hj] at h4
      rw [← h4, Addr.add_add]
    clear hcell
    have hs : ∃ l : List S46, l.length = len ∧ ∀ i s, l[i]? = some s → (∀ j u, ([.int .i64 s.f0, .int .i64 s.f1, .int .i64 s.f2] : List Value)[j]? = some u → w.cell? (ad.add (i * 3 + j)) = some u) ∧ (Lit.int .i64 s.f0).wf = true ∧ (Lit.int .i64 s.f1).wf = true ∧ (Lit.int .i64 s.f2).wf = true := by
      refine ⟨(List.range len).map fun i => if hi : i < len then (each i hi).choose else z46, by simp, fun i s hi => ?_⟩
      have hl := (List.getElem?_eq_some_iff.1 hi).1
      simp at hl
      simp [hl] at hi
      subst hi
      exact (each i hl).choose_spec
    obtain ⟨l, rfl, hl⟩ := hs
    have hmax : maxLen ≤ 9223372036854775807 := by decide
    refine ⟨l, rfl, ⟨rfl, by omega, fun _ => ⟨ad, rfl, fun j s hj => ⟨_, rfl, k46_mk w s, (hl j s hj).1⟩⟩⟩, hlc, by omega, fun x hx => ?_⟩
    obtain ⟨i, hi⟩ := List.getElem?_of_mem hx
    exact (hl i x hi).2
end
end Go.Proofs.Ytmkncddbecmlpaa.Pr
end
section
set_option linter.unusedVariables false
namespace Go.Proofs.Ytmkncddbecmlpaa.Pure
open Go.RowKit Go.Proofs.Ytmkncddbecmlpaa.Pr Go.Proofs.YtmkncddbecmlpaaW.PrintWords Go.Proofs.YtmkncddbecmlpaaW.PrintLast
def FF : ByteArray := ⟨#[102]⟩
def CC : ByteArray := ⟨#[99]⟩
theorem app_inj {a b c d : ByteArray} (h : a ++ b = c ++ d) (hs : a.size = c.size) : a = c ∧ b = d := by
  have h1 : (a ++ b).data.toList = (c ++ d).data.toList := by rw [h]
  simp only [ByteArray.data_append, Array.toList_append] at h1
  have h2 := List.append_inj h1 (by rw [Array.length_toList, Array.length_toList]; exact hs)
  refine ⟨ByteArray.ext (Array.toList_inj.1 h2.1), ByteArray.ext (Array.toList_inj.1 h2.2)⟩
theorem bt_zero (a b : ByteArray) (ha : a.size = 1) : bt (a ++ b) 0 = bt a 0 := by
  have h1 : (0 : Int).toNat < (a ++ b).size := by rw [ByteArray.size_append]; simp; omega
  have h2 : (0 : Int).toNat < a.size := by simp; omega
  unfold bt
  rw [dif_pos h1, dif_pos h2]
  congr 2
  exact ByteArray.getElem_append_left h2
theorem bt_F (b : ByteArray) : bt (FF ++ b) 0 = 102 := by rw [bt_zero _ _ rfl]; rfl
theorem bt_C (b : ByteArray) : bt (CC ++ b) 0 = 99 := by rw [bt_zero _ _ rfl]; rfl
theorem app_assoc (a b c : ByteArray) : a ++ b ++ c = a ++ (b ++ c) := ByteArray.append_assoc
def Asked (ns : List S72) (cs : List S74) (x s : ByteArray) : Prop := (∃ n ∈ ns, x = FF ++ n.f0 ∧ s = n.f1) ∨ (∃ c ∈ cs, x = CC ++ (c.f0 ++ c.f1) ∧ s = c.f2)
theorem Asked.more {ns ns' : List S72} {cs cs' : List S74} {x s : ByteArray} (h : Asked ns cs x s) (hn : ∀ n ∈ ns, n ∈ ns') (hc : ∀ c ∈ cs, c ∈ cs') : Asked ns' cs' x s := by
  rcases h with ⟨n, h1, h2⟩ | ⟨c, h1, h2⟩
  · exact .inl ⟨n, hn n h1, h2⟩
  · exact .inr ⟨c, hc c h1, h2⟩
section
variable {b : ByteArray} {a : Int} {ns : List S72} {cs : List S74} {cl : Bool}
theorem clash_names (hR : RightS b a ns cs cl) {m n : S72} (hm : m ∈ ns) (hn : n ∈ ns) (hne : m ≠ n) (he : m.f1 = n.f1) : cl = true := by
  rw [hR.clash]
  unfold clashP
  have : dup (ns.map fun n => n.f1) = true := by
    cases h : dup (ns.map fun n => n.f1)
    · exact absurd (nodup_map ((dup_iff _).1 h) hm hn he) hne
    · rfl
  rw [this, Bool.true_or]
theorem clash_cells (hR : RightS b a ns cs cl) {m n : S74} (hm : m ∈ cs) (hn : n ∈ cs) (hne : m ≠ n) (h0 : m.f0 = n.f0) (he : m.f2 = n.f2) : cl = true := by
  rw [hR.clash]
  unfold clashP
  have : dup (cs.map fun c => (c.f0, c.f2)) = true := by
    cases h : dup (cs.map fun c => (c.f0, c.f2))
    · exact absurd (nodup_map ((dup_iff _).1 h) hm hn (by simp [h0, he])) hne
    · rfl
  rw [this, Bool.or_true]
theorem label_part {l t : ByteArray} (hl : l.size = 16) : (CC ++ (l ++ t)).extract 1 17 = l := by
  apply ByteArray.ext
  apply Array.toList_inj.1
  have h2 : l.data.toList.length = 16 := by rw [Array.length_toList]; exact hl
  rw [ByteArray.data_extract, Array.toList_extract, ByteArray.data_append, ByteArray.data_append, Array.toList_append, Array.toList_append]
  show (([99] ++ (l.data.toList ++ t.data.toList)).drop 1).take 16 = _
  rw [List.singleton_append, List.drop_one, List.tail_cons, ← h2, List.take_left]
theorem ne_FC (x y : ByteArray) : FF ++ x ≠ CC ++ y := fun e => by
  have := congrArg (fun z => bt z 0) e
  simp only [bt_F, bt_C] at this
  omega
theorem keeps_step (hR : RightS b a ns cs cl) {xs : List S46} {x7 : Bool} {ins outs : List ByteArray} (hl : ins.length = outs.length) {i j k : Nat} {y t : ByteArray} (hj : j < ins.length) (hk : ins.length ≤ 15) (hx : Asked ns cs ins[j] (outs[j]'(by omega))) (hy : Asked ns cs y t) :
    columbariumlaw08_IdealKeeps.l1 (k + 1) xs x7 ins outs i y t j b a ns cs cl = columbariumlaw08_IdealKeeps.l1 k xs x7 ins outs i y t ((j + 1 : Nat) : Int) b a ns cs cl := by
  have hw : wrap64 ((j : Int) + 1) = ((j + 1 : Nat) : Int) := by unfold wrap64; omega
  have r1 : rdOf ByteArray.empty ins j = ins[j] := by unfold rdOf; simp [hj]
  have r2 : rdOf ByteArray.empty outs j = outs[j]'(by omega) := by unfold rdOf; simp [show j < outs.length from by omega]
  obtain ⟨x, hxe⟩ : ∃ x, ins[j] = x := ⟨_, rfl⟩
  obtain ⟨s, hse⟩ : ∃ s, outs[j]'(by omega) = s := ⟨_, rfl⟩
  rw [hxe] at r1 hx
  rw [hse] at r2 hx
  simp only [columbariumlaw08_IdealKeeps.l1]
  rw [if_pos (by omega), if_pos (by omega), r1, r2, hw]
  have ho : (j : Int) < (outs.length : Int) := by omega
  simp only [tl_eq]
  rcases hx with ⟨m, hm, rfl, rfl⟩ | ⟨m, hm, rfl, rfl⟩ <;> rcases hy with ⟨n, hn, rfl, rfl⟩ | ⟨n, hn, rfl, rfl⟩
  · rw [if_pos (by rw [ByteArray.size_append, show FF.size = 1 from rfl]; omega), if_pos (by rw [ByteArray.size_append, show FF.size = 1 from rfl]; omega), bt_F, bt_F, if_pos rfl, if_pos rfl]
    by_cases h1 : FF ++ m.f0 = FF ++ n.f0
    · have h2 := nodup_map hR.dn hm hn (app_inj h1 rfl).2
      rw [if_pos h1, if_pos ho, if_pos (by rw [h2])]
    · rw [if_neg h1, if_pos ho]
      by_cases h3 : m.f1 = n.f1
      · have h4 := clash_names hR hm hn (fun e => h1 (by rw [e])) h3
        rw [if_pos h3, if_pos h4]
      · rw [if_neg h3]
  · rw [if_pos (by rw [ByteArray.size_append, show FF.size = 1 from rfl]; omega), if_pos (by rw [ByteArray.size_append, show CC.size = 1 from rfl]; omega), bt_F, bt_C, if_neg (by decide), if_neg (ne_FC _ _)]
  · rw [if_pos (by rw [ByteArray.size_append, show CC.size = 1 from rfl]; omega), if_pos (by rw [ByteArray.size_append, show FF.size = 1 from rfl]; omega), bt_F, bt_C, if_neg (by decide), if_neg (fun e => ne_FC _ _ e.symm)]
  · have hm' := hR.cells m hm
    have hn' := hR.cells n hn
    have z1 : (CC ++ (m.f0 ++ m.f1)).size = 41 := by rw [ByteArray.size_append, ByteArray.size_append, show CC.size = 1 from rfl]; omega
    have z2 : (CC ++ (n.f0 ++ n.f1)).size = 41 := by rw [ByteArray.size_append, ByteArray.size_append, show CC.size = 1 from rfl]; omega
    rw [z1, z2, if_pos (by decide), if_pos (by decide), bt_C, bt_C, if_pos rfl, if_neg (by decide), if_pos (by decide), if_pos (by decide), if_pos (by decide), label_part hm'.1, label_part hn'.1]
    by_cases h1 : CC ++ (m.f0 ++ m.f1) = CC ++ (n.f0 ++ n.f1)
    · have h2 := app_inj (app_inj h1 rfl).2 (by omega)
      have h3 : m = n := nodup_map hR.dc hm hn (by simp [h2])
      rw [if_pos h1, if_pos ho, if_pos (by rw [h3])]
    · rw [if_neg h1]
      by_cases h0 : m.f0 = n.f0
      · rw [if_pos h0, if_pos ho]
        by_cases h3 : m.f2 = n.f2
        · have h4 := clash_cells hR hm hn (fun e => h1 (by rw [e])) h0 h3
          rw [if_pos h3, if_pos h4]
        · rw [if_neg h3]
      · rw [if_neg h0]
theorem keeps_l1 (hR : RightS b a ns cs cl) {xs : List S46} {x7 : Bool} {ins outs : List ByteArray} (hl : ins.length = outs.length) {i : Nat} (hi : i < 15) {y t : ByteArray} (hk : ins.length ≤ 15) (hx : ∀ j, (hj : j < ins.length) → Asked ns cs ins[j] (outs[j]'(by omega))) (hy : Asked ns cs y t) :
    ∀ (d j k : Nat), j + d = ins.length → columbariumlaw08_IdealKeeps.l1 (k + d + 1) xs x7 ins outs i y t j b a ns cs cl = columbariumlaw08_IdealKeeps.l0 k xs x7 (ins ++ [y]) (outs ++ [t]) ((i + 1 : Nat) : Int) b a ns cs cl := by
  intro d
  induction d with
  | zero =>
    intro j k h
    simp only [columbariumlaw08_IdealKeeps.l1]
    rw [if_neg (by omega), if_pos (by omega), if_pos (by omega), show wrap64 ((i : Int) + 1) = ((i + 1 : Nat) : Int) from by unfold wrap64; omega]
  | succ d ih =>
    intro j k h
    rw [show k + (d + 1) + 1 = (k + d + 1) + 1 from by omega, keeps_step hR hl (by omega) hk (hx j (by omega)) hy]
    exact ih (j + 1) k (by omega)
theorem keeps_j2 (hR : RightS b a ns cs cl) {xs : List S46} {x7 : Bool} {ins outs : List ByteArray} (hl : ins.length = outs.length) {i : Nat} (hi : i < 15) {y t : ByteArray} (hk : ins.length ≤ 15) (hx : ∀ j, (hj : j < ins.length) → Asked ns cs ins[j] (outs[j]'(by omega))) (hy : Asked ns cs y t) (k : Nat) :
    columbariumlaw08_IdealKeeps.j2 (k + ins.length + 3) xs x7 0 ins outs i y t b a ns cs cl = columbariumlaw08_IdealKeeps.l0 k xs x7 (ins ++ [y]) (outs ++ [t]) ((i + 1 : Nat) : Int) b a ns cs cl := by
  rw [show k + ins.length + 3 = (k + ins.length + 1) + 1 + 1 from by omega]
  simp only [columbariumlaw08_IdealKeeps.j2, if_pos]
  unfold ideal_Right.f
  rw [rightP_iff.2 hR, Option.bind_some]
  simp only [columbariumlaw08_IdealKeeps.j3]
  rw [if_neg (by simp)]
  exact keeps_l1 hR hl hi hk hx hy ins.length 0 k (by omega)
end
theorem asked_snoc {ns : List S72} {cs : List S74} {ins outs : List ByteArray} (hl : ins.length = outs.length) (hx : ∀ j, (hj : j < ins.length) → Asked ns cs ins[j] (outs[j]'(by omega))) {y t : ByteArray} (hy : Asked ns cs y t) :
    ∀ j, (hj : j < (ins ++ [y]).length) → Asked ns cs (ins ++ [y])[j] ((outs ++ [t])[j]'(by simp at hj ⊢; omega)) := by
  intro j hj
  by_cases h : j < ins.length
  · rw [List.getElem_append_left h, List.getElem_append_left (by omega)]
    exact hx j h
  · have : j = ins.length := by simp at hj; omega
    subst this
    simp [hl]
    simpa [hl] using hy
theorem keeps_l0 {xs : List S46} (hw : wf46 xs) {b : ByteArray} : ∀ (d i k : Nat) (ins outs : List ByteArray) (a : Int) (ns : List S72) (cs : List S74) (cl : Bool), i + d = 15 → 30 * d + 30 < k → Inv8 i b a ns cs cl → (hl : ins.length = outs.length) → ins.length = i →
    (∀ j, (hj : j < ins.length) → Asked ns cs ins[j] (outs[j]'(by omega))) → columbariumlaw08_IdealKeeps.l0 k xs true ins outs i b a ns cs cl = some true := by
  intro d
  induction d with
  | zero =>
    intro i k ins outs a ns cs cl h hk H hl hi hx
    obtain ⟨k, rfl⟩ : ∃ q, k = q + 1 + 1 := ⟨k - 2, by omega⟩
    simp only [columbariumlaw08_IdealKeeps.l0]
    have e : decide ((i : Int) < 15) = false := by simp; omega
    rw [e, ite_self]
    simp only [columbariumlaw08_IdealKeeps.j1]
    rw [if_neg (by simp)]
  | succ d ih =>
    intro i k ins outs a ns cs cl h hk H hl hi hx
    obtain ⟨k, rfl⟩ : ∃ q, k = (q + ins.length + 3) + 1 + 1 := ⟨k - (ins.length + 5), by omega⟩
    simp only [columbariumlaw08_IdealKeeps.l0]
    have e : decide ((i : Int) < 15) = true := by simp; omega
    by_cases hlt : (i : Int) < (xs.length : Int)
    case neg =>
      rw [if_neg hlt]
      simp only [columbariumlaw08_IdealKeeps.j1]
      rw [if_neg (by simp)]
    rw [if_pos hlt, e]
    simp only [columbariumlaw08_IdealKeeps.j1, if_pos]
    obtain ⟨w0, w1, w2⟩ := rd46_wf hw (i := (i : Int)) (by omega) hlt
    obtain ⟨q, hq, hq0, hq1⟩ := pick8 w1 (n := 6) (by omega)
    obtain ⟨p, hp, hp0, hp1⟩ := pick8 w0 (n := 2) (by omega)
    rw [if_pos (by omega), if_pos hlt, hq, Option.bind_some, Option.bind_some, if_pos (by rw [strOfNums_size]; simp), hp, Option.bind_some]
    by_cases hp2 : p = 0
    · rw [if_pos hp2]
      obtain ⟨t, ht⟩ : ∃ t, strOfNums [q % 256] = t := ⟨_, rfl⟩
      have hts : t.size = 1 := by rw [← ht, strOfNums_size]; rfl
      rw [ht]
      change (if 1 ≤ ((FF ++ t).size : Int) then ((ideal_Label.f (k + ins.length + 3) b a ns cs cl ((FF ++ t).extract 1 (FF ++ t).size)).bind fun z => columbariumlaw08_IdealKeeps.j2 (k + ins.length + 3) xs true z.2.2.2.2.2.2 ins outs i (FF ++ t) z.1 z.2.1 z.2.2.1 z.2.2.2.1 z.2.2.2.2.1 z.2.2.2.2.2.1) else none) = some true
      have hF : (FF ++ t).size = 1 + t.size := by rw [ByteArray.size_append]; rfl
      have hex : (FF ++ t).extract 1 (FF ++ t).size = t := by
        rw [hF, show (1 : Nat) = FF.size from rfl]
        exact ByteArray.extract_append_eq_right rfl (by rw [show FF.size = 1 from rfl])
      obtain ⟨s, a', ns', cl', hL, hI, hmem, hsub, _⟩ := label_step H (by omega) (t := t) (by omega)
      rw [if_pos (by rw [hF]; omega), hex, show k + ins.length + 3 = (k + ins.length + 1) + 2 from by omega, hL, Option.bind_some]
      dsimp only
      have hy : Asked ns' cs (FF ++ t) s := .inl ⟨_, hmem, rfl, rfl⟩
      have hx' : ∀ j, (hj : j < ins.length) → Asked ns' cs ins[j] (outs[j]'(by omega)) := fun j hj => (hx j hj).more hsub (fun _ h => h)
      rw [show (k + ins.length + 1) + 2 = k + ins.length + 3 from by omega, keeps_j2 hI.right hl (by omega) (by omega) hx' hy]
      exact ih (i + 1) k _ _ _ _ _ _ (by omega) (by omega) hI (by simp [hl]) (by simp [hi]) (asked_snoc hl hx' hy)
    · rw [if_neg hp2]
      obtain ⟨lr, _, hl0, hl1, hL⟩ := label8 w1
      obtain ⟨tr, _, ht0, ht1, hT⟩ := text8 w2
      obtain ⟨l, hle⟩ : ∃ l, strOfNums ([108, lr] ++ List.replicate 14 0) = l := ⟨_, rfl⟩
      obtain ⟨t, hte⟩ : ∃ t, strOfNums ([tr] ++ List.replicate 23 0) = t := ⟨_, rfl⟩
      have hls : l.size = 16 := by rw [← hle, strOfNums_size]; simp
      have hts : t.size = 24 := by rw [← hte, strOfNums_size]; simp
      rw [hle] at hL
      rw [hte] at hT
      obtain ⟨s, a', cs', cl', hS, hI, hmem, hsub, _⟩ := seal_step H (by omega) hls hts
      simp only [hL, hT, Option.bind_some]
      rw [if_pos (by omega), if_pos (by rw [ByteArray.size_append, show ((⟨#[99]⟩ : ByteArray)).size = 1 from rfl]; omega), show k + ins.length + 3 = (k + ins.length + 1) + 2 from by omega, hS]
      simp only [Option.bind_some]
      rw [open_eq hI.right]
      have hf : ∃ c ∈ cs', c.f0 = l ∧ c.f2 = s ∧ cs'.find? (fun n => decide (n.f0 = l) && decide (n.f2 = s)) = some c := by
        cases hq : cs'.find? (fun n => decide (n.f0 = l) && decide (n.f2 = s)) with
        | none => rw [List.find?_eq_none] at hq; exact absurd (hq _ hmem) (by simp)
        | some c =>
          have h9 := List.find?_some hq
          simp only [Bool.and_eq_true, decide_eq_true_eq] at h9
          exact ⟨c, List.mem_of_find?_eq_some hq, h9.1, h9.2, rfl⟩
      obtain ⟨c, hc, hc0, hc2, hfind⟩ := hf
      rw [hfind]
      simp only [Option.bind_some, if_pos]
      have hy : Asked ns cs' (CC ++ (l ++ t)) s := .inr ⟨_, hmem, rfl, rfl⟩
      have hx' : ∀ j, (hj : j < ins.length) → Asked ns cs' ins[j] (outs[j]'(by omega)) := fun j hj => (hx j hj).more (fun _ h => h) hsub
      have hin : (⟨#[99]⟩ : ByteArray) ++ l ++ t = CC ++ (l ++ t) := app_assoc _ _ _
      rw [hin]
      have hnext : columbariumlaw08_IdealKeeps.j2 (k + ins.length + 1 + 2) xs true 0 ins outs i (CC ++ (l ++ t)) s b a' ns cs' cl' = some true := by
        rw [show (k + ins.length + 1) + 2 = k + ins.length + 3 from by omega, keeps_j2 hI.right hl (by omega) (by omega) hx' hy]
        exact ih (i + 1) k _ _ _ _ _ _ (by omega) (by omega) hI (by simp [hl]) (by simp [hi]) (asked_snoc hl hx' hy)
      by_cases hcl : cl' = true
      · rw [if_pos hcl]
        exact hnext
      · rw [if_neg hcl]
        have hct : c.f1 = t := by
          by_cases hce : c = ⟨l, t, s⟩
          · rw [hce]
          · exact absurd (clash_cells hI.right hc hmem hce hc0 hc2) hcl
        rw [if_pos (by rw [hct])]
        exact hnext
theorem IdealKeeps (l0 : List Int) (a1 : Bool) (l2 : List S46) (h0 : l0.length ≤ maxLen) (h2 : ∀ x ∈ l0, (Lit.int .i64 x).wf = true) (h3 : l2.length ≤ maxLen) (h4 : wf46 l2) : ∃ k, columbariumlaw08_IdealKeeps.f k l0 a1 l2 = some true := by
  obtain ⟨K, hK⟩ : ∃ K : Nat, K = 5000 := ⟨_, rfl⟩
  obtain ⟨b, hb, hs⟩ := draws_eq h2 h0 a1 (k := K + 5) (by omega)
  have hr : rightB b 0 = true := rightB_iff.2 ⟨by omega, by omega, by omega⟩
  refine ⟨K + 5, ?_⟩
  unfold columbariumlaw08_IdealKeeps.f
  rw [awake8 K, hb]
  simp only [Option.bind_some, new_eq hr, if_pos]
  exact keeps_l0 h4 15 0 (K + 5) [] [] 0 [] [] false (by omega) (by omega) (Inv8.start hs) rfl rfl (fun j hj => by simp at hj)
end Go.Proofs.Ytmkncddbecmlpaa.Pure
end
