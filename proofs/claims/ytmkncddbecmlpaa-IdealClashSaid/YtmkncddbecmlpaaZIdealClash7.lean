/-
  A part of what the row IdealClash reaches, laid together by a program of this session (wip/tools/shake.py) out of this seat's texts. No condition but the ones that each lemma names.
-/
import Derived.Laws.BitsLemmas
import Derived.OpenShut
import Derived.ProofKit
import Derived.DataElems
import Derived.Test.YtmkncddbecmlpaaZIdealClash1
import Derived.Test.YtmkncddbecmlpaaZIdealClash3
import Derived.Test.YtmkncddbecmlpaaZIdealClash4
import Derived.Test.YtmkncddbecmlpaaZIdealClash5
import Derived.Test.YtmkncddbecmlpaaZIdealClash6
set_option linter.unusedVariables false
set_option linter.unusedSimpArgs false
section
set_option linter.unusedVariables false
namespace Go.Proofs.Ytmkncddbecmlpaa.Pr
open Go.RowKit Go.Proofs.YtmkncddbecmlpaaW.PrintWords Go.Proofs.YtmkncddbecmlpaaW.PrintLast Go.Proofs.YtmkncddbecmlpaaW.PrintMore
def rightB (b : ByteArray) (p : Int) : Bool := decide ((b.size : Int) ≤ 65536 ∧ 0 ≤ p ∧ p ≤ (b.size : Int))
def takeP (b : ByteArray) (p n : Int) : ByteArray × ByteArray × Int × Int :=
  if rightB b p = true ∧ 0 ≤ n then (if n > (b.size : Int) - p then (⟨#[]⟩, b, p, 12) else (b.extract p.toNat (p + n).toNat, b, p + n, 0)) else (⟨#[]⟩, b, p, 1)
theorem takeP_ok {b : ByteArray} {p n : Int} (h : rightB b p = true) (h0 : 0 ≤ n) (hl : n ≤ (b.size : Int) - p) : takeP b p n = (b.extract p.toNat (p + n).toNat, b, p + n, 0) := by
  unfold takeP; rw [if_pos ⟨h, h0⟩, if_neg (by omega)]
theorem takeP_short {b : ByteArray} {p n : Int} (h : rightB b p = true) (h0 : 0 ≤ n) (hl : n > (b.size : Int) - p) : takeP b p n = (⟨#[]⟩, b, p, 12) := by
  unfold takeP; rw [if_pos ⟨h, h0⟩, if_pos hl]
theorem takeP_bad {b : ByteArray} {p n : Int} (h : ¬ (rightB b p = true ∧ 0 ≤ n)) : takeP b p n = (⟨#[]⟩, b, p, 1) := by
  unfold takeP; rw [if_neg h]
theorem right_eq (b : ByteArray) (p : Int) : tape_Right.f b p = some (rightB b p) := by
  unfold tape_Right.f rightB
  by_cases h1 : (b.size : Int) ≤ 65536
  · by_cases h2 : p ≥ 0
    · rw [if_pos h1, if_pos h2]; simp [h1]; omega
    · rw [if_pos h1, if_neg h2]; simp; omega
  · rw [if_neg h1]; simp; omega
theorem rightB_iff {b : ByteArray} {p : Int} : rightB b p = true ↔ ((b.size : Int) ≤ 65536 ∧ 0 ≤ p ∧ p ≤ (b.size : Int)) := by unfold rightB; simp
def leftP (b : ByteArray) (p : Int) : Int := if rightB b p = true then (b.size : Int) - p else 0
theorem left_eq (b : ByteArray) (p : Int) : tape_Left.f b p = some (leftP b p) := by
  unfold tape_Left.f leftP
  rw [right_eq]
  simp only [Option.bind_some]
  by_cases h : rightB b p = true
  · rw [if_pos h, if_pos h]
    obtain ⟨h1, h2, h3⟩ := rightB_iff.1 h
    congr 1
    unfold wrap64; omega
  · rw [if_neg h, if_neg h]
theorem extract_twice (b : ByteArray) (i n : Nat) (h : i + n ≤ b.size) : (b.extract i b.size).extract 0 n = b.extract i (i + n) := by
  rw [ByteArray.extract_extract]
  congr 1 <;> omega
theorem extract_size' (b : ByteArray) (i j : Nat) (h : j ≤ b.size) : (b.extract i j).size = j - i := by
  rw [ByteArray.size_extract]; omega
theorem take_eq (b : ByteArray) (p n : Int) (k : Nat) : tape_Take.f (k + 1) b p n = some (takeP b p n) := by
  unfold tape_Take.f
  rw [right_eq]
  simp only [Option.bind_some]
  by_cases h : rightB b p = true
  · obtain ⟨h1, h2, h3⟩ := rightB_iff.1 h
    rw [if_pos h]
    simp only [tape_Take.j0]
    by_cases hn : n < 0
    · rw [if_pos (decide_eq_true hn), takeP_bad (by omega)]
    · rw [if_neg (by simpa using hn), left_eq]
      simp only [Option.bind_some]
      have hL : leftP b p = (b.size : Int) - p := if_pos h
      rw [hL]
      by_cases hl : n > (b.size : Int) - p
      · rw [if_pos hl, takeP_short h (by omega) hl]
      · have e1 : (p.toNat : Int) = p := Int.toNat_of_nonneg h2
        have e2 : (n.toNat : Int) = n := Int.toNat_of_nonneg (by omega)
        rw [if_neg hl, if_pos h2, if_pos h3, if_pos (by omega), if_pos (by rw [extract_size' _ _ _ (Nat.le_refl _)]; omega)]
        rw [extract_twice b p.toNat n.toNat (by omega), show p.toNat + n.toNat = (p + n).toNat from by omega, show wrap64 (p + n) = p + n from by unfold wrap64; omega, takeP_ok h (by omega) (by omega)]
  · rw [if_neg h]
    simp only [tape_Take.j0]
    rw [if_pos (by simpa using h), takeP_bad (by simp [h])]
end Go.Proofs.Ytmkncddbecmlpaa.Pr
end
section
set_option linter.unusedVariables false
namespace Go.Proofs.Ytmkncddbecmlpaa.Pr
open Go.RowKit Go.Proofs.YtmkncddbecmlpaaW.PrintWords Go.Proofs.YtmkncddbecmlpaaW.PrintLast Go.Proofs.YtmkncddbecmlpaaW.PrintMore
theorem tapeP_eq (b : ByteArray) (a : Int) : tapeP b a = rightB b a := by
  unfold tapeP rightB
  by_cases h1 : (b.size : Int) ≤ 65536 <;> by_cases h2 : a ≥ 0 <;> by_cases h3 : a ≤ (b.size : Int) <;> simp [h1, h2, h3] <;> omega
structure RightS (b : ByteArray) (a : Int) (ns : List S72) (cs : List S74) (cl : Bool) : Prop where
  tape : rightB b a = true
  len : ns.length ≤ 2000 ∧ cs.length ≤ 2000
  names : ∀ n ∈ ns, n.f0.size ≤ 100 ∧ n.f1.size = 16
  cells : ∀ c ∈ cs, c.f0.size = 16 ∧ c.f1.size = 24 ∧ c.f2.size = 40
  dn : (ns.map fun n => n.f0).Nodup
  dc : (cs.map fun c => (c.f0, c.f1)).Nodup
  clash : cl = clashP ns cs
theorem oddName_iff (n : S72) : oddName n = false ↔ n.f0.size ≤ 100 ∧ n.f1.size = 16 := by
  unfold oddName; simp; omega
theorem oddCell_iff (c : S74) : oddCell c = false ↔ c.f0.size = 16 ∧ c.f1.size = 24 ∧ c.f2.size = 40 := by
  unfold oddCell; simp; omega
theorem dup_iff {κ : Type} [DecidableEq κ] (l : List κ) : dup l = false ↔ l.Nodup := by unfold dup; simp
theorem rightP_iff {b : ByteArray} {a : Int} {ns : List S72} {cs : List S74} {cl : Bool} : rightP b a ns cs cl = true ↔ RightS b a ns cs cl := by
  unfold rightP
  rw [tapeP_eq]
  simp only [Bool.and_eq_true, Bool.not_eq_true', decide_eq_true_eq, beq_iff_eq, dup_iff, List.any_eq_false]
  constructor
  · rintro ⟨⟨⟨⟨⟨⟨h1, h2⟩, h3⟩, h4⟩, h5⟩, h6⟩, h7⟩
    exact ⟨h1, h2, fun n hn => (oddName_iff n).1 (by simpa using h3 n hn), fun c hc => (oddCell_iff c).1 (by simpa using h4 c hc), h5, h6, h7⟩
  · rintro ⟨h1, h2, h3, h4, h5, h6, h7⟩
    exact ⟨⟨⟨⟨⟨⟨h1, h2⟩, fun n hn => by simpa using (oddName_iff n).2 (h3 n hn)⟩, fun c hc => by simpa using (oddCell_iff c).2 (h4 c hc)⟩, h5⟩, h6⟩, h7⟩
def cut (b : ByteArray) (a n : Int) : ByteArray := b.extract a.toNat (a + n).toNat
theorem cut_size {b : ByteArray} {a n : Int} (h0 : 0 ≤ a) (hn : 0 ≤ n) (h : a + n ≤ (b.size : Int)) : ((cut b a n).size : Int) = n := by
  unfold cut
  rw [extract_size' _ _ _ (by omega)]
  omega
theorem own_eq {b : ByteArray} {a : Int} {ns : List S72} {cs : List S74} {cl : Bool} (hl : ns.length ≤ 2000 ∧ cs.length ≤ 2000) : ideal_own.f b a ns cs cl = some (b, a, ns, cs, cl) := by
  unfold ideal_own.f api_Name_69.f api_Made_70.f
  rw [if_pos (by omega)]
  simp only [Option.bind_some]
  rw [if_pos (by omega)]
  rfl
section
variable {b : ByteArray} {a : Int} {ns : List S72} {cs : List S74} {cl : Bool}
theorem RightS.name (h : RightS b a ns cs cl) {t : ByteArray} (ht : t.size ≤ 100) (hlen : ns.length < 2000) (hnew : ∀ n ∈ ns, n.f0 ≠ t) (hroom : a + 16 ≤ (b.size : Int)) :
    RightS b (a + 16) (ns ++ [⟨t, cut b a 16⟩]) cs (clashP (ns ++ [⟨t, cut b a 16⟩]) cs) where
  tape := by have := rightB_iff.1 h.tape; exact rightB_iff.2 ⟨this.1, by omega, hroom⟩
  len := ⟨by simp; omega, h.len.2⟩
  names n hn := by
    rcases List.mem_append.1 hn with hn | hn
    · exact h.names n hn
    · obtain rfl := List.mem_singleton.1 hn
      have := cut_size (rightB_iff.1 h.tape).2.1 (by omega) hroom
      exact ⟨ht, by simp only; omega⟩
  cells := h.cells
  dn := by
    rw [List.map_append, List.nodup_append]
    refine ⟨h.dn, by simp, ?_⟩
    intro x hx y hy
    obtain ⟨n, hn, rfl⟩ := List.mem_map.1 hx
    simp at hy
    subst hy
    exact hnew n hn
  dc := h.dc
  clash := rfl
theorem RightS.cell (h : RightS b a ns cs cl) {l t : ByteArray} (hl : l.size = 16) (ht : t.size = 24) (hlen : cs.length < 2000) (hnew : ∀ c ∈ cs, ¬ (c.f0 = l ∧ c.f1 = t)) (hroom : a + 40 ≤ (b.size : Int)) :
    RightS b (a + 40) ns (cs ++ [⟨l, t, cut b a 40⟩]) (clashP ns (cs ++ [⟨l, t, cut b a 40⟩])) where
  tape := by have := rightB_iff.1 h.tape; exact rightB_iff.2 ⟨this.1, by omega, hroom⟩
  len := ⟨h.len.1, by simp; omega⟩
  names := h.names
  cells n hn := by
    rcases List.mem_append.1 hn with hn | hn
    · exact h.cells n hn
    · obtain rfl := List.mem_singleton.1 hn
      have := cut_size (rightB_iff.1 h.tape).2.1 (by omega) hroom
      exact ⟨hl, ht, by simp only; omega⟩
  dn := h.dn
  dc := by
    rw [List.map_append, List.nodup_append]
    refine ⟨h.dc, by simp, ?_⟩
    intro x hx y hy
    obtain ⟨n, hn, rfl⟩ := List.mem_map.1 hx
    simp at hy
    subst hy
    intro e
    exact hnew n hn (by simpa using e)
  clash := rfl
theorem fnd_none {α : Type} {z : α} {p : α → Bool} {xs : List α} (h : ∀ x ∈ xs, p x = false) : fnd z p xs = (z, false) := by
  unfold fnd
  rw [List.find?_eq_none.2 (fun x hx => by simp [h x hx])]
theorem fnd_some {α : Type} {z : α} {p : α → Bool} {xs : List α} {x : α} (hx : x ∈ xs) (hp : p x = true) : ∃ y ∈ xs, p y = true ∧ fnd z p xs = (y, true) := by
  unfold fnd
  cases h : xs.find? p with
  | none => exact absurd hp (by rw [List.find?_eq_none] at h; exact h x hx)
  | some y => exact ⟨y, List.mem_of_find?_eq_some h, List.find?_some h, rfl⟩
theorem nodup_map {α β : Type} {f : α → β} : ∀ {xs : List α}, (xs.map f).Nodup → ∀ {x y : α}, x ∈ xs → y ∈ xs → f x = f y → x = y
  | [], _, _, _, hx, _, _ => by cases hx
  | z :: zs, h, x, y, hx, hy, e => by
    simp only [List.map_cons, List.nodup_cons] at h
    rcases List.mem_cons.1 hx with rfl | hx' <;> rcases List.mem_cons.1 hy with rfl | hy'
    · rfl
    · exact absurd (by rw [e]; exact List.mem_map_of_mem hy') h.1
    · exact absurd (by rw [← e]; exact List.mem_map_of_mem hx') h.1
    · exact nodup_map h.2 hx' hy' e
theorem label_new (h : RightS b a ns cs cl) {t : ByteArray} (ht : t.size ≤ 100) (hlen : ns.length < 2000) (hnew : ∀ n ∈ ns, n.f0 ≠ t) (hroom : a + 16 ≤ (b.size : Int)) (k : Nat) :
    ideal_Label.f (k + 2) b a ns cs cl t = some (cut b a 16, b, a + 16, ns ++ [⟨t, cut b a 16⟩], cs, clashP (ns ++ [⟨t, cut b a 16⟩]) cs, 0) := by
  unfold ideal_Label.f
  rw [own_eq h.len]
  simp only [Option.bind_some]
  unfold ideal_Right.f
  rw [rightP_iff.2 h]
  simp only [Option.bind_some, if_pos]
  simp only [ideal_Label.j0]
  have h1 : decide ((t.size : Int) > 100) = false := by simp; omega
  rw [h1, if_neg (by simp)]
  unfold ideal_find_51.f
  rw [fnd_none (fun n hn => by simpa using hnew n hn)]
  simp only [Option.bind_some]
  rw [if_neg (by simp), if_neg (by omega), take_eq, takeP_ok h.tape (by omega) (by omega)]
  simp only [Option.bind_some]
  rw [if_pos trivial, own_eq h.len]
  simp only [Option.bind_some]
  rw [if_pos (by have := h.len.1; omega)]
  unfold ideal_clash.f
  simp only [Option.bind_some]
  rfl
theorem label_old (h : RightS b a ns cs cl) {t : ByteArray} (ht : t.size ≤ 100) {n : S72} (hn : n ∈ ns) (e : n.f0 = t) (k : Nat) :
    ideal_Label.f (k + 1) b a ns cs cl t = some (n.f1, b, a, ns, cs, cl, 0) := by
  unfold ideal_Label.f
  rw [own_eq h.len]
  simp only [Option.bind_some]
  unfold ideal_Right.f
  rw [rightP_iff.2 h]
  simp only [Option.bind_some, if_pos]
  simp only [ideal_Label.j0]
  have h1 : decide ((t.size : Int) > 100) = false := by simp; omega
  rw [h1, if_neg (by simp)]
  unfold ideal_find_51.f
  obtain ⟨y, hy, hp, hf⟩ := fnd_some (z := z72) (p := fun n => decide (n.f0 = t)) hn (by simpa using e)
  rw [hf]
  simp only [Option.bind_some]
  rw [if_pos trivial]
  have : y = n := nodup_map h.dn hy hn (by simp at hp; rw [hp, e])
  rw [this]
theorem seal_new (h : RightS b a ns cs cl) {l t : ByteArray} (hl : l.size = 16) (ht : t.size = 24) (hlen : cs.length < 2000) (hnew : ∀ c ∈ cs, ¬ (c.f0 = l ∧ c.f1 = t)) (hroom : a + 40 ≤ (b.size : Int)) (k : Nat) :
    ideal_Seal.f (k + 2) b a ns cs cl l t = some (cut b a 40, b, a + 40, ns, cs ++ [⟨l, t, cut b a 40⟩], clashP ns (cs ++ [⟨l, t, cut b a 40⟩]), 0) := by
  unfold ideal_Seal.f
  rw [own_eq h.len]
  simp only [Option.bind_some]
  unfold ideal_Right.f
  rw [rightP_iff.2 h]
  simp only [Option.bind_some, if_pos]
  rw [if_pos (by omega)]
  simp only [ideal_Seal.j0]
  have h1 : ((t.size : Int) != 24) = false := by simp; omega
  rw [h1, if_neg (by simp)]
  unfold ideal_find_66.f
  rw [fnd_none (fun n hn => by have := hnew n hn; by_cases e : n.f0 = l <;> simp_all)]
  simp only [Option.bind_some]
  rw [if_neg (by simp), if_neg (by omega), take_eq, takeP_ok h.tape (by omega) (by omega)]
  simp only [Option.bind_some]
  rw [if_pos trivial, own_eq h.len]
  simp only [Option.bind_some]
  rw [if_pos (by have := h.len.2; omega)]
  unfold ideal_clash.f
  simp only [Option.bind_some]
  rfl
theorem seal_old (h : RightS b a ns cs cl) {l t : ByteArray} (hl : l.size = 16) (ht : t.size = 24) {c : S74} (hc : c ∈ cs) (e1 : c.f0 = l) (e2 : c.f1 = t) (k : Nat) :
    ideal_Seal.f (k + 1) b a ns cs cl l t = some (c.f2, b, a, ns, cs, cl, 0) := by
  unfold ideal_Seal.f
  rw [own_eq h.len]
  simp only [Option.bind_some]
  unfold ideal_Right.f
  rw [rightP_iff.2 h]
  simp only [Option.bind_some, if_pos]
  rw [if_pos (by omega)]
  simp only [ideal_Seal.j0]
  have h1 : ((t.size : Int) != 24) = false := by simp; omega
  rw [h1, if_neg (by simp)]
  unfold ideal_find_66.f
  obtain ⟨y, hy, hp, hf⟩ := fnd_some (z := z74) (p := fun n => decide (n.f0 = l) && decide (n.f1 = t)) hc (by simp [e1, e2])
  rw [hf]
  simp only [Option.bind_some]
  rw [if_pos trivial]
  have : y = c := nodup_map h.dc hy hc (by simp at hp; simp [hp, e1, e2])
  rw [this]
theorem open_eq (h : RightS b a ns cs cl) (l x : ByteArray) : ideal_Open.f b a ns cs cl l x = some (match cs.find? (fun n => decide (n.f0 = l) && decide (n.f2 = x)) with | some c => (c.f1, 0) | none => (⟨#[]⟩, 11)) := by
  unfold ideal_Open.f
  unfold ideal_Right.f
  rw [rightP_iff.2 h]
  simp only [Option.bind_some, if_pos]
  unfold ideal_find_67.f fnd
  cases hf : cs.find? (fun n => decide (n.f0 = l) && decide (n.f2 = x)) with
  | none => simp
  | some y => simp
theorem new_eq (h : rightB b a = true) : ideal_New.f b a = some (b, a, [], [], false, 0) := by
  unfold ideal_New.f
  rw [right_eq, h]
  rfl
theorem new_right (h : rightB b a = true) : RightS b a [] [] false where
  tape := h
  len := by simp
  names := by simp
  cells := by simp
  dn := by simp
  dc := by simp
  clash := by rfl
end
end Go.Proofs.Ytmkncddbecmlpaa.Pr
end
section
set_option linter.unusedVariables false
namespace Go.Proofs.Ytmkncddbecmlpaa.Pr
open Go.RowKit Go.Proofs.YtmkncddbecmlpaaW.PrintWords Go.Proofs.YtmkncddbecmlpaaW.PrintLast Go.Proofs.YtmkncddbecmlpaaW.PrintMore
section
variable {b : ByteArray} {a : Int} {ns : List S72} {cs : List S74} {cl : Bool}
theorem same_l1 (hl : cs.length ≤ 2000) : ∀ (d i k : Nat), i + d = cs.length → d < k → columbariumref08_Same.l1 k i b a ns cs cl b a ns cs cl = some true := by
  intro d
  induction d with
  | zero =>
    intro i k h hk
    obtain ⟨k, rfl⟩ : ∃ m, k = m + 1 := ⟨k - 1, by omega⟩
    simp only [columbariumref08_Same.l1]
    rw [if_neg (by omega)]
  | succ d ih =>
    intro i k h hk
    obtain ⟨k, rfl⟩ : ∃ m, k = m + 1 := ⟨k - 1, by omega⟩
    simp only [columbariumref08_Same.l1]
    rw [if_pos (by omega), if_pos (by omega), if_pos (by omega), if_neg (by simp), show wrap64 ((i : Int) + 1) = ((i + 1 : Nat) : Int) from by unfold wrap64; omega]
    exact ih (i + 1) k (by omega) (by omega)
theorem same_l0 (hl : cs.length ≤ 2000) (hl2 : ns.length ≤ 2000) : ∀ (d i k : Nat), i + d = ns.length → d + cs.length + 1 < k → columbariumref08_Same.l0 k i b a ns cs cl b a ns cs cl = some true := by
  intro d
  induction d with
  | zero =>
    intro i k h hk
    obtain ⟨k, rfl⟩ : ∃ m, k = m + 1 := ⟨k - 1, by omega⟩
    simp only [columbariumref08_Same.l0]
    rw [if_neg (by omega)]
    exact same_l1 hl cs.length 0 k (by omega) (by omega)
  | succ d ih =>
    intro i k h hk
    obtain ⟨k, rfl⟩ : ∃ m, k = m + 1 := ⟨k - 1, by omega⟩
    simp only [columbariumref08_Same.l0]
    rw [if_pos (by omega), if_pos (by omega), if_pos (by omega), if_neg (by simp), show wrap64 ((i : Int) + 1) = ((i + 1 : Nat) : Int) from by unfold wrap64; omega]
    exact ih (i + 1) k (by omega) (by omega)
theorem same_refl (hl : ns.length ≤ 2000 ∧ cs.length ≤ 2000) {k : Nat} (hk : ns.length + cs.length + 2 < k) : columbariumref08_Same.f k b a ns cs cl b a ns cs cl = some true := by
  obtain ⟨k, rfl⟩ : ∃ m, k = m + 1 := ⟨k - 1, by omega⟩
  unfold columbariumref08_Same.f
  rw [if_neg (by simp), if_neg (by simp), if_pos rfl]
  simp only [columbariumref08_Same.j0]
  rw [if_neg (by simp)]
  exact same_l0 hl.2 hl.1 ns.length 0 k (by omega) (by omega)
theorem label_short (h : RightS b a ns cs cl) {t : ByteArray} (ht : t.size ≤ 100) (hlen : ns.length < 2000) (hnew : ∀ n ∈ ns, n.f0 ≠ t) (hroom : ¬ a + 16 ≤ (b.size : Int)) (k : Nat) :
    ideal_Label.f (k + 2) b a ns cs cl t = some (⟨#[]⟩, b, a, ns, cs, cl, 12) := by
  unfold ideal_Label.f
  rw [own_eq h.len]
  simp only [Option.bind_some]
  unfold ideal_Right.f
  rw [rightP_iff.2 h]
  simp only [Option.bind_some, if_pos]
  simp only [ideal_Label.j0]
  have h1 : decide ((t.size : Int) > 100) = false := by simp; omega
  rw [h1, if_neg (by simp)]
  unfold ideal_find_51.f
  rw [fnd_none (fun n hn => by simpa using hnew n hn)]
  simp only [Option.bind_some]
  rw [if_neg (by simp), if_neg (by omega), take_eq, takeP_short h.tape (by omega) (by omega)]
  simp only [Option.bind_some]
  rw [if_neg (by simp)]
end
def tape16 : ByteArray := ⟨#[97, 98, 99, 100, 101, 102, 103, 104, 105, 106, 107, 108, 109, 110, 111, 112]⟩
theorem awake8 (k : Nat) : columbariumlaw08_awake.f (k + 5) = some true := by
  have h0 : rightB tape16 0 = true := by rfl
  have hR := new_right h0
  have hx : ((⟨#[120]⟩ : ByteArray)).size ≤ 100 := by decide
  have hy : ((⟨#[121]⟩ : ByteArray)).size ≤ 100 := by decide
  have hroom : (0 : Int) + 16 ≤ (tape16.size : Int) := by decide
  have hc : cut tape16 0 16 = tape16 := by rfl
  have hR2 := hR.name hx (by simp) (by simp) hroom
  have hL := label_new hR hx (by simp) (by simp) hroom (k + 3)
  rw [hc] at hR2 hL
  unfold columbariumlaw08_awake.f
  show (ideal_New.f tape16 0).bind _ = _
  rw [new_eq h0]
  simp only [Option.bind_some]
  rw [hL]
  simp only [Option.bind_some]
  rw [label_old hR2 hx (List.mem_append_right _ (List.mem_singleton.2 rfl)) rfl]
  simp only [Option.bind_some]
  rw [label_short hR2 hy (by simp) (by simp) (by decide)]
  simp only [Option.bind_some]
  rw [open_eq hR]
  simp only [Option.bind_some]
  have hN : ideal_New.f (⟨#[]⟩ : ByteArray) 1 = some (⟨#[]⟩, 0, [], [], false, 1) := by rfl
  rw [hN]
  simp only [Option.bind_some]
  rw [if_pos trivial, if_pos (by rw [ByteArray.toList_eq]; rfl), if_pos trivial, if_pos trivial, if_pos trivial, same_refl hR2.len (by simp), Option.bind_some]
  simp only [List.find?_nil, if_pos]
  unfold ideal_Right.f
  rw [rightP_iff.2 hR2]
  rfl
theorem pick8 {a n : Int} (hw : (Lit.int .i64 a).wf = true) (hn : 0 < n) : ∃ r, columbariumlaw08_pick.f a n = some r ∧ 0 ≤ r ∧ r < n := by
  unfold columbariumlaw08_pick.f
  have hr : -9223372036854775808 ≤ a ∧ a ≤ 9223372036854775807 := bounds_i64 hw
  by_cases h : a < 0
  · have e1 : wrap64 (a + 1) = a + 1 := by unfold wrap64; omega
    have e2 : wrap64 (-(a + 1)) = -(a + 1) := by unfold wrap64; omega
    rw [if_pos h, if_neg (by omega), e1, e2, Int.tmod_eq_emod_of_nonneg (by omega)]
    exact ⟨_, rfl, Int.emod_nonneg _ (by omega), Int.emod_lt_of_pos _ hn⟩
  · rw [if_neg h, if_neg (by omega), Int.tmod_eq_emod_of_nonneg (by omega)]
    exact ⟨_, rfl, Int.emod_nonneg _ (by omega), Int.emod_lt_of_pos _ hn⟩
theorem rd_wf {xs : List Int} (h : ∀ x ∈ xs, (Lit.int .i64 x).wf = true) {i : Int} (h0 : 0 ≤ i) (h1 : i < xs.length) : (Lit.int .i64 (rd xs i)).wf = true := by
  unfold rd
  have hi : i.toNat < xs.length := by omega
  have : xs.getD i.toNat 0 = xs[i.toNat] := by simp [hi]
  first
  | (rw [this]; exact h _ (List.getElem_mem hi))
  | (simp [hi]; exact h _ (List.getElem_mem hi))
theorem draws8 {x0 : List Int} (hw : ∀ x ∈ x0, (Lit.int .i64 x).wf = true) (hx : x0.length ≤ maxLen) (x1 : Bool) : ∀ (d : Nat) (x5 : List Int) (k : Nat), x5.length + d = 2000 → 2 * d < k → ∃ b, columbariumlaw08_Draws.l0 k x0 x1 x5 x5.length = some (b, 0) ∧ b.size = 2000 := by
  intro d
  induction d with
  | zero =>
    intro x5 k h hk
    obtain ⟨k, rfl⟩ : ∃ m, k = m + 1 := ⟨k - 1, by omega⟩
    simp only [columbariumlaw08_Draws.l0]
    rw [if_neg (by omega)]
    exact ⟨_, rfl, by rw [strOfNums_size]; omega⟩
  | succ d ih =>
    intro x5 k h hk
    obtain ⟨k, rfl⟩ : ∃ m, k = m + 1 + 1 := ⟨k - 2, by omega⟩
    have hnext : ∀ v, ∃ b, columbariumlaw08_Draws.l0 k x0 x1 (x5 ++ [v]) (wrap64 ((x5.length : Int) + 1)) = some (b, 0) ∧ b.size = 2000 := fun v => by
      rw [show wrap64 ((x5.length : Int) + 1) = (((x5 ++ [v]).length : Nat) : Int) from by simp; unfold wrap64; omega]
      exact ih (x5 ++ [v]) k (by simp; omega) (by omega)
    have hj : ∀ x7, ∃ b, columbariumlaw08_Draws.j1 (k + 1) x0 x1 x5 x5.length x7 = some (b, 0) ∧ b.size = 2000 := fun x7 => by
      simp only [columbariumlaw08_Draws.j1]
      have hl : x5.length < 140737488355328 := by omega
      have e8 : wrap64 (Int.tdiv (x5.length : Int) 8) = (x5.length : Int) / 8 := by rw [Int.tdiv_eq_ediv_of_nonneg (by omega)]; unfold wrap64; omega
      cases x1
      · rw [if_neg (by simp), if_pos hl]
        exact hnext _
      · rw [if_pos rfl]
        by_cases h8 : Int.tmod (x5.length : Int) 8 = 0
        · rw [if_pos h8]
          by_cases hp : (x0.length : Int) > 0
          · have hm0 : 0 ≤ Int.tmod (wrap64 (Int.tdiv (x5.length : Int) 8)) (x0.length : Int) := by rw [e8]; exact Int.tmod_nonneg _ (by omega)
            have hm1 : Int.tmod (wrap64 (Int.tdiv (x5.length : Int) 8)) (x0.length : Int) < (x0.length : Int) := by rw [e8]; exact Int.tmod_lt_of_pos _ hp
            rw [if_pos hp, if_neg (by omega), if_pos hm0, if_pos hm1]
            obtain ⟨r, hr, _⟩ := pick8 (rd_wf hw hm0 hm1) (n := 3) (by omega)
            rw [hr]
            simp only [Option.bind_some]
            rw [if_pos hl]
            exact hnext _
          · rw [if_neg hp, if_pos hl]
            exact hnext _
        · rw [if_neg h8, if_pos hl]
          exact hnext _
    simp only [columbariumlaw08_Draws.l0]
    rw [if_pos (by omega)]
    by_cases hp : (x0.length : Int) > 0
    · have hm0 : 0 ≤ Int.tmod (x5.length : Int) (x0.length : Int) := Int.tmod_nonneg _ (by omega)
      have hm1 : Int.tmod (x5.length : Int) (x0.length : Int) < (x0.length : Int) := Int.tmod_lt_of_pos _ hp
      rw [if_pos hp, if_neg (by omega), if_pos hm0, if_pos hm1]
      obtain ⟨r, hr, _⟩ := pick8 (rd_wf hw hm0 hm1) (n := 256) (by omega)
      rw [hr]
      simp only [Option.bind_some]
      exact hj _
    · rw [if_neg hp]
      exact hj _
theorem draws_eq {x0 : List Int} (hw : ∀ x ∈ x0, (Lit.int .i64 x).wf = true) (hx : x0.length ≤ maxLen) (x1 : Bool) {k : Nat} (hk : 4000 < k) : ∃ b, columbariumlaw08_Draws.f k x0 x1 = some (b, 0) ∧ b.size = 2000 :=
  draws8 hw hx x1 2000 [] k rfl (by omega)
theorem sn_append (xs ys : List Int) : strOfNums xs ++ strOfNums ys = strOfNums (xs ++ ys) := by
  apply ByteArray.ext
  simp [strOfNums, ByteArray.data_append]
theorem label8 {a : Int} (hw : (Lit.int .i64 a).wf = true) : ∃ r, columbariumlaw08_pick.f a 4 = some r ∧ 0 ≤ r ∧ r < 4 ∧ columbariumlaw08_Label.f a = some (strOfNums ([108, r] ++ List.replicate 14 0)) := by
  obtain ⟨r, hr, h0, h1⟩ := pick8 hw (n := 4) (by omega)
  refine ⟨r, hr, h0, h1, ?_⟩
  unfold columbariumlaw08_Label.f
  rw [hr]
  simp only [Option.bind_some]
  rw [if_pos (by decide), if_pos (by rw [strOfNums_size, strOfNums_size]; simp), sn_append, show r % 256 = r from by omega]
theorem text8 {a : Int} (hw : (Lit.int .i64 a).wf = true) : ∃ r, columbariumlaw08_pick.f a 5 = some r ∧ 0 ≤ r ∧ r < 5 ∧ columbariumlaw08_Text.f a = some (strOfNums ([r] ++ List.replicate 23 0)) := by
  obtain ⟨r, hr, h0, h1⟩ := pick8 hw (n := 5) (by omega)
  refine ⟨r, hr, h0, h1, ?_⟩
  unfold columbariumlaw08_Text.f
  rw [hr]
  simp only [Option.bind_some]
  rw [if_pos (by decide), if_pos (by rw [strOfNums_size, strOfNums_size]; simp), sn_append, show r % 256 = r from by omega]
end Go.Proofs.Ytmkncddbecmlpaa.Pr
end
section
set_option linter.unusedVariables false
namespace Go.Proofs.Ytmkncddbecmlpaa.Pr
open Go.RowKit Go.Proofs.YtmkncddbecmlpaaW.PrintWords Go.Proofs.YtmkncddbecmlpaaW.PrintLast Go.Proofs.YtmkncddbecmlpaaW.PrintMore
structure Inv8 (i : Nat) (b : ByteArray) (a : Int) (ns : List S72) (cs : List S74) (cl : Bool) : Prop where
  right : RightS b a ns cs cl
  size : b.size = 2000
  taken : a = 16 * (ns.length : Int) + 40 * (cs.length : Int)
  many : ns.length + cs.length ≤ i
theorem Inv8.start {b : ByteArray} (hb : b.size = 2000) : Inv8 0 b 0 [] [] false :=
  ⟨new_right (rightB_iff.2 ⟨by omega, by omega, by omega⟩), hb, by simp, by simp⟩
section
variable {i : Nat} {b : ByteArray} {a : Int} {ns : List S72} {cs : List S74} {cl : Bool}
theorem Inv8.more (h : Inv8 i b a ns cs cl) {j : Nat} (hj : i ≤ j) : Inv8 j b a ns cs cl := ⟨h.right, h.size, h.taken, by have := h.many; omega⟩
theorem label_step (h : Inv8 i b a ns cs cl) (hi : i < 15) {t : ByteArray} (ht : t.size ≤ 100) :
    ∃ s a' ns' cl', (∀ k, ideal_Label.f (k + 2) b a ns cs cl t = some (s, b, a', ns', cs, cl', 0)) ∧ Inv8 (i + 1) b a' ns' cs cl' ∧ (⟨t, s⟩ : S72) ∈ ns' ∧ (∀ n ∈ ns, n ∈ ns') ∧ (∀ n ∈ ns', n ∈ ns ∨ n = ⟨t, s⟩) := by
  have hm := h.many
  have hs := h.size
  have htk := h.taken
  by_cases he : ∃ n ∈ ns, n.f0 = t
  · obtain ⟨n, hn, e⟩ := he
    exact ⟨n.f1, a, ns, cl, fun k => label_old h.right ht hn e (k + 1), h.more (by omega), by subst e; exact hn, fun _ h => h, fun _ h => .inl h⟩
  · have hnew : ∀ n ∈ ns, n.f0 ≠ t := fun n hn e => he ⟨n, hn, e⟩
    have hroom : a + 16 ≤ (b.size : Int) := by omega
    refine ⟨_, _, _, _, fun k => label_new h.right ht (by omega) hnew hroom k, ⟨h.right.name ht (by omega) hnew hroom, hs, by simp; omega, by simp; omega⟩, List.mem_append_right _ (List.mem_singleton.2 rfl), fun n hn => List.mem_append_left _ hn, fun n hn => ?_⟩
    rcases List.mem_append.1 hn with hn | hn
    · exact .inl hn
    · exact .inr (List.mem_singleton.1 hn)
theorem seal_step (h : Inv8 i b a ns cs cl) (hi : i < 15) {l t : ByteArray} (hl : l.size = 16) (ht : t.size = 24) :
    ∃ s a' cs' cl', (∀ k, ideal_Seal.f (k + 2) b a ns cs cl l t = some (s, b, a', ns, cs', cl', 0)) ∧ Inv8 (i + 1) b a' ns cs' cl' ∧ (⟨l, t, s⟩ : S74) ∈ cs' ∧ (∀ c ∈ cs, c ∈ cs') ∧ (∀ c ∈ cs', c ∈ cs ∨ c = ⟨l, t, s⟩) := by
  have hm := h.many
  have hs := h.size
  have htk := h.taken
  by_cases he : ∃ c ∈ cs, c.f0 = l ∧ c.f1 = t
  · obtain ⟨c, hc, e1, e2⟩ := he
    exact ⟨c.f2, a, cs, cl, fun k => seal_old h.right hl ht hc e1 e2 (k + 1), h.more (by omega), by subst e1; subst e2; exact hc, fun _ h => h, fun _ h => .inl h⟩
  · have hnew : ∀ c ∈ cs, ¬ (c.f0 = l ∧ c.f1 = t) := fun c hc e => he ⟨c, hc, e⟩
    have hroom : a + 40 ≤ (b.size : Int) := by omega
    refine ⟨_, _, _, _, fun k => seal_new h.right hl ht (by omega) hnew hroom k, ⟨h.right.cell hl ht (by omega) hnew hroom, hs, by simp; omega, by simp; omega⟩, List.mem_append_right _ (List.mem_singleton.2 rfl), fun n hn => List.mem_append_left _ hn, fun n hn => ?_⟩
    rcases List.mem_append.1 hn with hn | hn
    · exact .inl hn
    · exact .inr (List.mem_singleton.1 hn)
end
theorem tl_eq (x y : ByteArray) : x.toList = y.toList ↔ x = y := by
  have := str_eq x y
  by_cases h : x = y
  · simp [h]
  · simp only [h, decide_false, beq_eq_false_iff_ne] at this
    simp [h, this]
def memB {κ : Type} [DecidableEq κ] (x : κ) (l : List κ) : Bool := decide (x ∈ l)
theorem memB_nil {κ : Type} [DecidableEq κ] (x : κ) : memB x [] = false := by simp [memB]
theorem memB_snoc {κ : Type} [DecidableEq κ] (x y : κ) (l : List κ) : memB x (l ++ [y]) = (memB x l || decide (x = y)) := by simp [memB]
theorem dup_snoc {κ : Type} [DecidableEq κ] (l : List κ) (x : κ) : dup (l ++ [x]) = (dup l || memB x l) := by
  unfold dup memB
  have : (l ++ [x]).Nodup ↔ l.Nodup ∧ x ∉ l := by
    rw [List.nodup_append]
    constructor
    · rintro ⟨h1, _, h2⟩
      exact ⟨h1, fun hx => h2 x hx x (by simp) rfl⟩
    · rintro ⟨h1, h2⟩
      exact ⟨h1, by simp, fun y hy z hz => by simp at hz; subst hz; rintro rfl; exact h2 hy⟩
  by_cases h1 : l.Nodup <;> by_cases h2 : x ∈ l <;> simp [this, h1, h2]
theorem take_snoc {α : Type} {l : List α} {j : Nat} (h : j < l.length) : l.take (j + 1) = l.take j ++ [l[j]] := by
  rw [List.take_add_one]
  simp [h]
end Go.Proofs.Ytmkncddbecmlpaa.Pr
end
section
set_option linter.unusedVariables false
namespace Go.Proofs.Ytmkncddbecmlpaa.Pr
open Go.RowKit Go.Proofs.YtmkncddbecmlpaaW.PrintWords Go.ChangeShapes Go.WideShapes Go.ChangeAt
def wf46 (l : List S46) : Prop := ∀ x ∈ l, (Lit.int .i64 x.f0).wf = true ∧ (Lit.int .i64 x.f1).wf = true ∧ (Lit.int .i64 x.f2).wf = true
theorem rd46_wf {l : List S46} (h : wf46 l) {i : Int} (h0 : 0 ≤ i) (h1 : i < l.length) : (Lit.int .i64 (rd_T46 l i).f0).wf = true ∧ (Lit.int .i64 (rd_T46 l i).f1).wf = true ∧ (Lit.int .i64 (rd_T46 l i).f2).wf = true := by
  have hi : i.toNat < l.length := by omega
  have : rd_T46 l i = l[i.toNat] := by unfold rd_T46; simp [hi]
  rw [this]
  exact h _ (List.getElem_mem hi)
section
variable {H : Type} {enc : TypeId × Value → H} {w : World} {base : Nat} {spare : Nat → Bool} {held : Bool} {fuel : Nat}
set_option maxRecDepth 100000 in
theorem open_46 {cs : List Value} {x : DataW H × List MemPlace} (h : DataW.trod enc Try.prog w base spare held fuel 46 cs = some x) :
    ∃ s : S46, cs = [.int .i64 s.f0, .int .i64 s.f1, .int .i64 s.f2] ∧ (Lit.int .i64 s.f0).wf = true ∧ (Lit.int .i64 s.f1).wf = true ∧ (Lit.int .i64 s.f2).wf = true := by
  obtain ⟨xs, m, rfl, rfl, hl, hx, he⟩ := DataW.trod_array Try.underlying46 h
  have hc : Try.prog.cellsOf 46 = 3 := by kernel_rfl
  have hc3 : Try.prog.cellsOf 3 = 1 := by kernel_rfl
  rw [hc] at hl
  match cs, hl with
  | [u0, u1, u2], _ =>
    have g : ∀ i, (hi : i < 3) → ∃ n, ((([u0, u1, u2] : List Value).drop (i * 1)).take 1) = [.int .i64 n] ∧ (Lit.int .i64 n).wf = true := fun i hi => by
      have := he i hi
      rw [hc3, List.getElem?_eq_getElem (by omega)] at this
      obtain ⟨n, e, _, hw⟩ := DataW.trod_int Try.underlying3 this
      exact ⟨n, e, hw⟩
    obtain ⟨n0, e0, w0⟩ := g 0 (by omega)
    obtain ⟨n1, e1, w1⟩ := g 1 (by omega)
    obtain ⟨n2, e2, w2⟩ := g 2 (by omega)
    simp at e0 e1 e2
    subst e0
    subst e1
    subst e2
    exact ⟨⟨n0, n1, n2⟩, rfl, w0, w1, w2⟩
theorem open_rows46 {a : Option Addr} {len cap : Nat} {d : DataW H} {p : List MemPlace} (h : DataW.Trod enc Try.prog w base spare held 45 (.slice a len cap) d p) :
    ∃ l : List S46, len = l.length ∧ Kd.C k46 w a l.length l ∧ l.length ≤ cap ∧ l.length ≤ maxLen ∧ wf46 l := by
  obtain ⟨fuel, hf⟩ := h
  have hc : Try.prog.cellsOf 46 = 3 := by kernel_rfl
  rcases DataW.trod_slice Try.underlying45 hf with ⟨hcs, _⟩ | ⟨ad, l, c, elems, rest, n, rfl, hcs, _, _, hlc, hcm, hel, hcell, _⟩
  · simp [Value.cells] at hcs
    obtain ⟨rfl, rfl, rfl⟩ := hcs
    exact ⟨[], rfl, ⟨rfl, by simp, fun h => absurd h (by simp)⟩, by simp, by simp, fun x hx => by cases hx⟩
  · simp [Value.cells] at hcs
    obtain ⟨rfl, rfl, rfl⟩ := hcs
    rw [hc] at hcell
    have each : ∀ i, i < len → ∃ s : S46, (∀ j u, ([.int .i64 s.f0, .int .i64 s.f1, .int .i64 s.f2] : List Value)[j]? = some u → w.cell? (ad.add (i * 3 + j)) = some u) ∧ (Lit.int .i64 s.f0).wf = true ∧ (Lit.int .i64 s.f1).wf = true ∧ (Lit.int .i64 s.f2).wf = true := fun i hi => by
      have h1 := hcell i hi
      rw [List.getElem?_eq_getElem (by omega), Option.bind_eq_some_iff] at h1
      obtain ⟨cs, h2, h3⟩ := h1
      obtain ⟨s, rfl, w0, w1, w2⟩ := open_46 h3
      refine ⟨s, fun j u hj => ?_, w0, w1, w2⟩
      have h4 := (World.cells?_some h2).2.2 j (by
        have := (List.getElem?_eq_some_iff.1 hj).1
        simpa using this)
      rw [hj] at h4
      rw [← h4, Addr.add_add]
    clear hcell
    have hs : ∃ l : List S46, l.length = len ∧ ∀ i s, l[i]? = some s → (∀ j u, ([.int .i64 s.f0, .int .i64 s.f1, .int .i64 s.f2] : List Value)[j]? = some u → w.cell? (ad.add (i * 3 + j)) = some u) ∧ (Lit.int .i64 s.f0).wf = true ∧ (Lit.int .i64 s.f1).wf = true ∧ (Lit.int .i64 s.f2).wf = true := by
      refine ⟨(List.range len).map fun i => if hi : i < len then (each i hi).choose else z46, by simp, fun i s hi => ?_⟩
      have hl := (List.getElem?_eq_some_iff.1 hi).1
      simp at hl
      simp [hl] at hi
      subst hi
      exact (each i hl).choose_spec
    obtain ⟨l, rfl, hl⟩ := hs
    have hmax : maxLen ≤ 9223372036854775807 := by decide
    refine ⟨l, rfl, ⟨rfl, by omega, fun _ => ⟨ad, rfl, fun j s hj => ⟨_, rfl, k46_mk w s, (hl j s hj).1⟩⟩⟩, hlc, by omega, fun x hx => ?_⟩
    obtain ⟨i, hi⟩ := List.getElem?_of_mem hx
    exact (hl i x hi).2
end
end Go.Proofs.Ytmkncddbecmlpaa.Pr
end
section
set_option linter.unusedVariables false
namespace Go.Proofs.Ytmkncddbecmlpaa.Pure
open Go.RowKit Go.Proofs.Ytmkncddbecmlpaa.Pr Go.Proofs.YtmkncddbecmlpaaW.PrintWords Go.Proofs.YtmkncddbecmlpaaW.PrintLast
section
variable {b : ByteArray} {a : Int} {ns : List S72} {cs : List S74} {cl : Bool} {x7 : Bool} {x9 : Int}
theorem nodup_ne {α β : Type} {f : α → β} {xs : List α} (h : (xs.map f).Nodup) {i j : Nat} (hi : i < xs.length) (hj : j < xs.length) (hij : j < i) : f xs[i] ≠ f xs[j] := by
  have := (List.pairwise_iff_getElem.1 h) j i (by simpa using hj) (by simpa using hi) hij
  simp only [List.getElem_map] at this
  exact fun e => this e.symm
theorem clash_l2 (hR : RightS b a ns cs cl) {i : Nat} (hi : i < ns.length) (X : Bool) : ∀ (d j k : Nat), j + d = i → d < k →
    columbariumlaw08_IdealClash.l2 k x7 x9 (X || memB ns[i].f1 ((ns.take j).map fun n : S72 => n.f1)) i j b a ns cs cl = columbariumlaw08_IdealClash.l1 (k - d - 1) x7 x9 (X || memB ns[i].f1 ((ns.take i).map fun n : S72 => n.f1)) ((i + 1 : Nat) : Int) b a ns cs cl := by
  have hl := hR.len
  intro d
  induction d with
  | zero =>
    intro j k h hk
    obtain ⟨k, rfl⟩ : ∃ m, k = m + 1 := ⟨k - 1, by omega⟩
    obtain rfl : j = i := by omega
    simp only [columbariumlaw08_IdealClash.l2]
    rw [if_neg (by omega), show wrap64 ((j : Int) + 1) = ((j + 1 : Nat) : Int) from by unfold wrap64; omega]
    rfl
  | succ d ih =>
    intro j k h hk
    obtain ⟨k, rfl⟩ : ∃ m, k = m + 1 := ⟨k - 1, by omega⟩
    have hj : j < ns.length := by omega
    have ih := ih (j + 1) k (by omega) (by omega)
    have hw : wrap64 ((j : Int) + 1) = ((j + 1 : Nat) : Int) := by unfold wrap64; omega
    have hne : ¬ (ns[i].f0).toList = (ns[j].f0).toList := by rw [tl_eq]; exact nodup_ne hR.dn hi hj (by omega)
    have e : k + 1 - (d + 1) - 1 = k - d - 1 := by omega
    rw [e, ← ih, take_snoc hj]
    simp only [columbariumlaw08_IdealClash.l2]
    rw [if_pos (show (j : Int) < (i : Int) by omega), rd72_get hi, rd72_get hj, hw, str_eq]
    simp only [List.map_append, List.map_cons, List.map_nil, memB_snoc]
    cases hx : (X || memB ns[i].f1 ((ns.take j).map fun n : S72 => n.f1))
    · rw [if_neg (by simp), if_pos (show (0 : Int) ≤ i by omega), if_pos (show (i : Int) < (ns.length : Int) by omega), if_pos (show (0 : Int) ≤ j by omega), if_pos (show (j : Int) < (ns.length : Int) by omega), if_neg hne, ← Bool.or_assoc, hx, Bool.false_or]
    · rw [if_pos rfl, if_pos (show (0 : Int) ≤ i by omega), if_pos (show (i : Int) < (ns.length : Int) by omega), if_pos (show (0 : Int) ≤ j by omega), if_pos (show (j : Int) < (ns.length : Int) by omega), if_neg hne, ← Bool.or_assoc, hx, Bool.true_or]
theorem clash_l4 (hR : RightS b a ns cs cl) {i : Nat} (hi : i < cs.length) (X : Bool) : ∀ (d j k : Nat), j + d = i → d < k →
    columbariumlaw08_IdealClash.l4 k x7 x9 (X || memB (cs[i].f0, cs[i].f2) ((cs.take j).map fun c : S74 => (c.f0, c.f2))) i j b a ns cs cl = columbariumlaw08_IdealClash.l3 (k - d - 1) x7 x9 (X || memB (cs[i].f0, cs[i].f2) ((cs.take i).map fun c : S74 => (c.f0, c.f2))) ((i + 1 : Nat) : Int) b a ns cs cl := by
  have hl := hR.len
  intro d
  induction d with
  | zero =>
    intro j k h hk
    obtain ⟨k, rfl⟩ : ∃ m, k = m + 1 := ⟨k - 1, by omega⟩
    obtain rfl : j = i := by omega
    simp only [columbariumlaw08_IdealClash.l4]
    rw [if_neg (by omega), show wrap64 ((j : Int) + 1) = ((j + 1 : Nat) : Int) from by unfold wrap64; omega]
    rfl
  | succ d ih =>
    intro j k h hk
    obtain ⟨k, rfl⟩ : ∃ m, k = m + 1 := ⟨k - 1, by omega⟩
    have hj : j < cs.length := by omega
    have ih := ih (j + 1) k (by omega) (by omega)
    have hw : wrap64 ((j : Int) + 1) = ((j + 1 : Nat) : Int) := by unfold wrap64; omega
    have hne := nodup_ne hR.dc hi hj (by omega)
    have e : k + 1 - (d + 1) - 1 = k - d - 1 := by omega
    rw [e, ← ih, take_snoc hj]
    simp only [columbariumlaw08_IdealClash.l4]
    rw [if_pos (show (j : Int) < (i : Int) by omega), rd74_get hi, rd74_get hj, hw, str_eq]
    simp only [List.map_append, List.map_cons, List.map_nil, memB_snoc, tl_eq]
    rw [if_pos (show (0 : Int) ≤ i by omega), if_pos (show (i : Int) < (cs.length : Int) by omega), if_pos (show (0 : Int) ≤ j by omega), if_pos (show (j : Int) < (cs.length : Int) by omega)]
    cases hx : (X || memB (cs[i].f0, cs[i].f2) ((cs.take j).map fun c : S74 => (c.f0, c.f2)))
    · rw [if_neg (by simp), ← Bool.or_assoc, hx, Bool.false_or]
      by_cases h0 : cs[i].f0 = cs[j].f0
      · rw [if_pos h0, if_neg (fun h1 => hne (by simp [h0, h1]))]
        simp [h0]
      · rw [if_neg h0]
        simp [h0]
    · rw [if_pos rfl, ← Bool.or_assoc, hx, Bool.true_or]
      by_cases h0 : cs[i].f0 = cs[j].f0
      · rw [if_pos h0, if_neg (fun h1 => hne (by simp [h0, h1]))]
      · rw [if_neg h0]
theorem clash_l3 {n : Nat} (h : Inv8 n b a ns cs cl) (hn : n ≤ 15) : ∀ (d i k : Nat), i + d = cs.length → 20 * d < k →
    columbariumlaw08_IdealClash.l3 k true 0 (dup (ns.map fun n : S72 => n.f1) || dup ((cs.take i).map fun c : S74 => (c.f0, c.f2))) i b a ns cs cl = some true := by
  have hR := h.right
  have hl := hR.len
  have hm := h.many
  have htk := h.taken
  intro d
  induction d with
  | zero =>
    intro i k hd hk
    obtain ⟨k, rfl⟩ : ∃ m, k = m + 1 := ⟨k - 1, by omega⟩
    simp only [columbariumlaw08_IdealClash.l3]
    rw [if_neg (by omega), if_pos trivial, if_pos trivial, show cs.take i = cs from List.take_of_length_le (by omega)]
    have hc := hR.clash
    unfold clashP at hc
    rw [← hc, if_pos (by simp), show wrap64 (16 * (ns.length : Int)) = 16 * (ns.length : Int) from by unfold wrap64; omega, show wrap64 (40 * (cs.length : Int)) = 40 * (cs.length : Int) from by unfold wrap64; omega, show wrap64 (16 * (ns.length : Int) + 40 * (cs.length : Int)) = 16 * (ns.length : Int) + 40 * (cs.length : Int) from by unfold wrap64; omega, htk]
    simp
  | succ d ih =>
    intro i k hd hk
    obtain ⟨k, rfl⟩ : ∃ m, k = m + 1 := ⟨k - 1, by omega⟩
    have hi : i < cs.length := by omega
    simp only [columbariumlaw08_IdealClash.l3]
    rw [if_pos (by omega)]
    have h4 := clash_l4 (x7 := true) (x9 := 0) hR hi (dup (ns.map fun n : S72 => n.f1) || dup ((cs.take i).map fun c : S74 => (c.f0, c.f2))) i 0 k (by omega) (by omega)
    simp only [List.take_zero, List.map_nil, memB_nil, Bool.or_false] at h4
    refine h4.trans ?_
    have ih := ih (i + 1) (k - i - 1) (by omega) (by omega)
    rw [take_snoc hi, List.map_append, List.map_cons, List.map_nil, dup_snoc, ← Bool.or_assoc] at ih
    exact ih
theorem clash_l1 {n : Nat} (h : Inv8 n b a ns cs cl) (hn : n ≤ 15) : ∀ (d i k : Nat), i + d = ns.length → 20 * d + 400 < k →
    columbariumlaw08_IdealClash.l1 k true 0 (dup ((ns.take i).map fun n : S72 => n.f1)) i b a ns cs cl = some true := by
  have hR := h.right
  have hl := hR.len
  have hm := h.many
  intro d
  induction d with
  | zero =>
    intro i k hd hk
    obtain ⟨k, rfl⟩ : ∃ m, k = m + 1 := ⟨k - 1, by omega⟩
    simp only [columbariumlaw08_IdealClash.l1]
    rw [if_neg (by omega), show ns.take i = ns from List.take_of_length_le (by omega)]
    have h3 := clash_l3 h hn cs.length 0 k (by omega) (by omega)
    simp only [List.take_zero, List.map_nil] at h3
    rw [show dup ([] : List (ByteArray × ByteArray)) = false from rfl, Bool.or_false] at h3
    exact h3
  | succ d ih =>
    intro i k hd hk
    obtain ⟨k, rfl⟩ : ∃ m, k = m + 1 := ⟨k - 1, by omega⟩
    have hi : i < ns.length := by omega
    simp only [columbariumlaw08_IdealClash.l1]
    rw [if_pos (by omega)]
    have h4 := clash_l2 (x7 := true) (x9 := 0) hR hi (dup ((ns.take i).map fun n : S72 => n.f1)) i 0 k (by omega) (by omega)
    simp only [List.take_zero, List.map_nil, memB_nil, Bool.or_false] at h4
    refine h4.trans ?_
    have ih := ih (i + 1) (k - i - 1) (by omega) (by omega)
    rw [take_snoc hi, List.map_append, List.map_cons, List.map_nil, dup_snoc] at ih
    exact ih
end
theorem clash_l0 {xs : List S46} (hw : wf46 xs) (hxs : xs.length ≤ maxLen) {b : ByteArray} : ∀ (d i k : Nat) (a : Int) (ns : List S72) (cs : List S74) (cl : Bool), i + d = 15 → 2 * d + 1000 < k → Inv8 i b a ns cs cl →
    columbariumlaw08_IdealClash.l0 k xs true 0 i b a ns cs cl = some true := by
  have fin : ∀ (i k : Nat) (a : Int) (ns : List S72) (cs : List S74) (cl : Bool), i ≤ 15 → 800 < k → Inv8 i b a ns cs cl → columbariumlaw08_IdealClash.j1 k xs true 0 i false b a ns cs cl = some true := by
    intro i k a ns cs cl hi hk H
    obtain ⟨k, rfl⟩ : ∃ q, k = q + 1 := ⟨k - 1, by omega⟩
    have hm := H.many
    simp only [columbariumlaw08_IdealClash.j1]
    rw [if_neg (by simp)]
    have h1 := clash_l1 H hi ns.length 0 k (by omega) (by omega)
    exact h1
  intro d
  induction d with
  | zero =>
    intro i k a ns cs cl h hk H
    obtain ⟨k, rfl⟩ : ∃ q, k = q + 1 := ⟨k - 1, by omega⟩
    simp only [columbariumlaw08_IdealClash.l0]
    have e : decide ((i : Int) < 15) = false := by simp; omega
    rw [e, ite_self]
    exact fin i k a ns cs cl (by omega) (by omega) H
  | succ d ih =>
    intro i k a ns cs cl h hk H
    obtain ⟨k, rfl⟩ : ∃ q, k = q + 2 + 1 + 1 := ⟨k - 4, by omega⟩
    simp only [columbariumlaw08_IdealClash.l0]
    have e : decide ((i : Int) < 15) = true := by simp; omega
    by_cases hlt : (i : Int) < (xs.length : Int)
    case neg =>
      rw [if_neg hlt]
      exact fin i _ a ns cs cl (by omega) (by omega) H
    rw [if_pos hlt, e]
    simp only [columbariumlaw08_IdealClash.j1, if_pos]
    obtain ⟨w0, w1, w2⟩ := rd46_wf hw (i := (i : Int)) (by omega) hlt
    have e1 : wrap64 ((i : Int) + 1) = ((i + 1 : Nat) : Int) := by unfold wrap64; omega
    obtain ⟨p, hp, hp0, hp1⟩ := pick8 w0 (n := 2) (by omega)
    rw [if_pos (by omega), if_pos hlt, hp, Option.bind_some, e1]
    by_cases hp2 : p = 0
    · rw [if_pos hp2]
      obtain ⟨q, hq, hq0, hq1⟩ := pick8 w1 (n := 6) (by omega)
      rw [hq, Option.bind_some]
      obtain ⟨s, a', ns', cl', hL, hI, _⟩ := label_step H (by omega) (t := strOfNums [q % 256]) (by rw [strOfNums_size]; simp)
      rw [hL k, Option.bind_some]
      dsimp only
      rw [if_pos rfl]
      exact ih (i + 1) (k + 2) _ _ _ _ (by omega) (by omega) hI
    · rw [if_neg hp2]
      obtain ⟨l, hl, hl0, hl1, hL⟩ := label8 w1
      obtain ⟨t, ht, ht0, ht1, hT⟩ := text8 w2
      rw [hL, Option.bind_some, hT, Option.bind_some]
      obtain ⟨s, a', cs', cl', hS, hI, _⟩ := seal_step H (by omega) (l := strOfNums ([108, l] ++ List.replicate 14 0)) (t := strOfNums ([t] ++ List.replicate 23 0)) (by rw [strOfNums_size]; simp) (by rw [strOfNums_size]; simp)
      rw [hS k, Option.bind_some]
      dsimp only
      rw [if_pos rfl]
      exact ih (i + 1) (k + 2) _ _ _ _ (by omega) (by omega) hI
theorem IdealClash (l0 : List Int) (a1 : Bool) (l2 : List S46) (h0 : l0.length ≤ maxLen) (h2 : ∀ x ∈ l0, (Lit.int .i64 x).wf = true) (h3 : l2.length ≤ maxLen) (h4 : wf46 l2) : ∃ k, columbariumlaw08_IdealClash.f k l0 a1 l2 = some true := by
  obtain ⟨K, hK⟩ : ∃ K : Nat, K = 5000 := ⟨_, rfl⟩
  obtain ⟨b, hb, hs⟩ := draws_eq h2 h0 a1 (k := K + 5) (by omega)
  have hr : rightB b 0 = true := rightB_iff.2 ⟨by omega, by omega, by omega⟩
  refine ⟨K + 5, ?_⟩
  unfold columbariumlaw08_IdealClash.f
  rw [awake8 K, hb]
  simp only [Option.bind_some, new_eq hr]
  exact clash_l0 h4 h3 15 0 (K + 5) 0 [] [] false (by omega) (by omega) (Inv8.start hs)
end Go.Proofs.Ytmkncddbecmlpaa.Pure
end
