/-
  A part of what the row IdealHangs reaches, laid together by a program of this session (wip/tools/shake.py) out of this seat's texts. No condition but the ones that each lemma names.
-/
import Derived.Laws.BitsLemmas
import Derived.OpenShut
import Derived.Test.YtmkncddbecmlpaaZIdealHangs1
import Derived.Test.YtmkncddbecmlpaaZIdealHangs2
import Derived.Test.YtmkncddbecmlpaaZIdealHangs3
import Derived.Test.YtmkncddbecmlpaaZIdealHangs4
import Derived.Test.YtmkncddbecmlpaaZIdealHangs6
set_option linter.unusedVariables false
set_option linter.unusedSimpArgs false
section
set_option linter.unusedVariables false
namespace Go.Proofs.Ytmkncddbecmlpaa.Pr
open Go.RowKit Go.Proofs.YtmkncddbecmlpaaW.PrintWords Go.Proofs.YtmkncddbecmlpaaW.PrintLast Go.Proofs.YtmkncddbecmlpaaW.PrintMore
def rightB (b : ByteArray) (p : Int) : Bool := decide ((b.size : Int) ≤ 65536 ∧ 0 ≤ p ∧ p ≤ (b.size : Int))
def takeP (b : ByteArray) (p n : Int) : ByteArray × ByteArray × Int × Int :=
  if rightB b p = true ∧ 0 ≤ n then (if n > (b.size : Int) - p then (⟨#[]⟩, b, p, 12) else (b.extract p.toNat (p + n).toNat, b, p + n, 0)) else (⟨#[]⟩, b, p, 1)
theorem takeP_ok {b : ByteArray} {p n : Int} (h : rightB b p = true) (h0 : 0 ≤ n) (hl : n ≤ (b.size : Int) - p) : takeP b p n = (b.extract p.toNat (p + n).toNat, b, p + n, 0) := by
  unfold takeP; rw [if_pos ⟨h, h0⟩, if_neg (by omega)]
theorem takeP_short {b : ByteArray} {p n : Int} (h : rightB b p = true) (h0 : 0 ≤ n) (hl : n > (b.size : Int) - p) : takeP b p n = (⟨#[]⟩, b, p, 12) := by
  unfold takeP; rw [if_pos ⟨h, h0⟩, if_pos hl]
theorem takeP_bad {b : ByteArray} {p n : Int} (h : ¬ (rightB b p = true ∧ 0 ≤ n)) : takeP b p n = (⟨#[]⟩, b, p, 1) := by
  unfold takeP; rw [if_neg h]
theorem right_eq (b : ByteArray) (p : Int) : tape_Right.f b p = some (rightB b p) := by
  unfold tape_Right.f rightB
  by_cases h1 : (b.size : Int) ≤ 65536
  · by_cases h2 : p ≥ 0
    · rw [if_pos h1, if_pos h2]; simp [h1]; omega
    · rw [if_pos h1, if_neg h2]; simp; omega
  · rw [if_neg h1]; simp; omega
theorem rightB_iff {b : ByteArray} {p : Int} : rightB b p = true ↔ ((b.size : Int) ≤ 65536 ∧ 0 ≤ p ∧ p ≤ (b.size : Int)) := by unfold rightB; simp
def leftP (b : ByteArray) (p : Int) : Int := if rightB b p = true then (b.size : Int) - p else 0
theorem left_eq (b : ByteArray) (p : Int) : tape_Left.f b p = some (leftP b p) := by
  unfold tape_Left.f leftP
  rw [right_eq]
  simp only [Option.bind_some]
  by_cases h : rightB b p = true
  · rw [if_pos h, if_pos h]
    obtain ⟨h1, h2, h3⟩ := rightB_iff.1 h
    congr 1
    unfold wrap64; omega
  · rw [if_neg h, if_neg h]
theorem extract_twice (b : ByteArray) (i n : Nat) (h : i + n ≤ b.size) : (b.extract i b.size).extract 0 n = b.extract i (i + n) := by
  rw [ByteArray.extract_extract]
  congr 1 <;> omega
theorem extract_size' (b : ByteArray) (i j : Nat) (h : j ≤ b.size) : (b.extract i j).size = j - i := by
  rw [ByteArray.size_extract]; omega
theorem take_eq (b : ByteArray) (p n : Int) (k : Nat) : tape_Take.f (k + 1) b p n = some (takeP b p n) := by
  unfold tape_Take.f
  rw [right_eq]
  simp only [Option.bind_some]
  by_cases h : rightB b p = true
  · obtain ⟨h1, h2, h3⟩ := rightB_iff.1 h
    rw [if_pos h]
    simp only [tape_Take.j0]
    by_cases hn : n < 0
    · rw [if_pos (decide_eq_true hn), takeP_bad (by omega)]
    · rw [if_neg (by simpa using hn), left_eq]
      simp only [Option.bind_some]
      have hL : leftP b p = (b.size : Int) - p := if_pos h
      rw [hL]
      by_cases hl : n > (b.size : Int) - p
      · rw [if_pos hl, takeP_short h (by omega) hl]
      · have e1 : (p.toNat : Int) = p := Int.toNat_of_nonneg h2
        have e2 : (n.toNat : Int) = n := Int.toNat_of_nonneg (by omega)
        rw [if_neg hl, if_pos h2, if_pos h3, if_pos (by omega), if_pos (by rw [extract_size' _ _ _ (Nat.le_refl _)]; omega)]
        rw [extract_twice b p.toNat n.toNat (by omega), show p.toNat + n.toNat = (p + n).toNat from by omega, show wrap64 (p + n) = p + n from by unfold wrap64; omega, takeP_ok h (by omega) (by omega)]
  · rw [if_neg h]
    simp only [tape_Take.j0]
    rw [if_pos (by simpa using h), takeP_bad (by simp [h])]
end Go.Proofs.Ytmkncddbecmlpaa.Pr
end
section
set_option linter.unusedVariables false
namespace Go.Proofs.Ytmkncddbecmlpaa.Pr
open Go.RowKit Go.Proofs.YtmkncddbecmlpaaW.PrintWords Go.Proofs.YtmkncddbecmlpaaW.PrintLast Go.Proofs.YtmkncddbecmlpaaW.PrintMore
theorem tapeP_eq (b : ByteArray) (a : Int) : tapeP b a = rightB b a := by
  unfold tapeP rightB
  by_cases h1 : (b.size : Int) ≤ 65536 <;> by_cases h2 : a ≥ 0 <;> by_cases h3 : a ≤ (b.size : Int) <;> simp [h1, h2, h3] <;> omega
structure RightS (b : ByteArray) (a : Int) (ns : List S72) (cs : List S74) (cl : Bool) : Prop where
  tape : rightB b a = true
  len : ns.length ≤ 2000 ∧ cs.length ≤ 2000
  names : ∀ n ∈ ns, n.f0.size ≤ 100 ∧ n.f1.size = 16
  cells : ∀ c ∈ cs, c.f0.size = 16 ∧ c.f1.size = 24 ∧ c.f2.size = 40
  dn : (ns.map fun n => n.f0).Nodup
  dc : (cs.map fun c => (c.f0, c.f1)).Nodup
  clash : cl = clashP ns cs
theorem oddName_iff (n : S72) : oddName n = false ↔ n.f0.size ≤ 100 ∧ n.f1.size = 16 := by
  unfold oddName; simp; omega
theorem oddCell_iff (c : S74) : oddCell c = false ↔ c.f0.size = 16 ∧ c.f1.size = 24 ∧ c.f2.size = 40 := by
  unfold oddCell; simp; omega
theorem dup_iff {κ : Type} [DecidableEq κ] (l : List κ) : dup l = false ↔ l.Nodup := by unfold dup; simp
theorem rightP_iff {b : ByteArray} {a : Int} {ns : List S72} {cs : List S74} {cl : Bool} : rightP b a ns cs cl = true ↔ RightS b a ns cs cl := by
  unfold rightP
  rw [tapeP_eq]
  simp only [Bool.and_eq_true, Bool.not_eq_true', decide_eq_true_eq, beq_iff_eq, dup_iff, List.any_eq_false]
  constructor
  · rintro ⟨⟨⟨⟨⟨⟨h1, h2⟩, h3⟩, h4⟩, h5⟩, h6⟩, h7⟩
    exact ⟨h1, h2, fun n hn => (oddName_iff n).1 (by simpa using h3 n hn), fun c hc => (oddCell_iff c).1 (by simpa using h4 c hc), h5, h6, h7⟩
  · rintro ⟨h1, h2, h3, h4, h5, h6, h7⟩
    exact ⟨⟨⟨⟨⟨⟨h1, h2⟩, fun n hn => by simpa using (oddName_iff n).2 (h3 n hn)⟩, fun c hc => by simpa using (oddCell_iff c).2 (h4 c hc)⟩, h5⟩, h6⟩, h7⟩
def cut (b : ByteArray) (a n : Int) : ByteArray := b.extract a.toNat (a + n).toNat
theorem cut_size {b : ByteArray} {a n : Int} (h0 : 0 ≤ a) (hn : 0 ≤ n) (h : a + n ≤ (b.size : Int)) : ((cut b a n).size : Int) = n := by
  unfold cut
  rw [extract_size' _ _ _ (by omega)]
  omega
theorem own_eq {b : ByteArray} {a : Int} {ns : List S72} {cs : List S74} {cl : Bool} (hl : ns.length ≤ 2000 ∧ cs.length ≤ 2000) : ideal_own.f b a ns cs cl = some (b, a, ns, cs, cl) := by
  unfold ideal_own.f api_Name_69.f api_Made_70.f
  rw [if_pos (by omega)]
  simp only [Option.bind_some]
  rw [if_pos (by omega)]
  rfl
section
variable {b : ByteArray} {a : Int} {ns : List S72} {cs : List S74} {cl : Bool}
theorem RightS.name (h : RightS b a ns cs cl) {t : ByteArray} (ht : t.size ≤ 100) (hlen : ns.length < 2000) (hnew : ∀ n ∈ ns, n.f0 ≠ t) (hroom : a + 16 ≤ (b.size : Int)) :
    RightS b (a + 16) (ns ++ [⟨t, cut b a 16⟩]) cs (clashP (ns ++ [⟨t, cut b a 16⟩]) cs) where
  tape := by have := rightB_iff.1 h.tape; exact rightB_iff.2 ⟨this.1, by omega, hroom⟩
  len := ⟨by simp; omega, h.len.2⟩
  names n hn := by
    rcases List.mem_append.1 hn with hn | hn
    · exact h.names n hn
    · obtain rfl := List.mem_singleton.1 hn
      have := cut_size (rightB_iff.1 h.tape).2.1 (by omega) hroom
      exact ⟨ht, by simp only; omega⟩
  cells := h.cells
  dn := by
    rw [List.map_append, List.nodup_append]
    refine ⟨h.dn, by simp, ?_⟩
    intro x hx y hy
    obtain ⟨n, hn, rfl⟩ := List.mem_map.1 hx
    simp at hy
    subst hy
    exact hnew n hn
  dc := h.dc
  clash := rfl
theorem RightS.cell (h : RightS b a ns cs cl) {l t : ByteArray} (hl : l.size = 16) (ht : t.size = 24) (hlen : cs.length < 2000) (hnew : ∀ c ∈ cs, ¬ (c.f0 = l ∧ c.f1 = t)) (hroom : a + 40 ≤ (b.size : Int)) :
    RightS b (a + 40) ns (cs ++ [⟨l, t, cut b a 40⟩]) (clashP ns (cs ++ [⟨l, t, cut b a 40⟩])) where
  tape := by have := rightB_iff.1 h.tape; exact rightB_iff.2 ⟨this.1, by omega, hroom⟩
  len := ⟨h.len.1, by simp; omega⟩
  names := h.names
  cells n hn := by
    rcases List.mem_append.1 hn with hn | hn
    · exact h.cells n hn
    · obtain rfl := List.mem_singleton.1 hn
      have := cut_size (rightB_iff.1 h.tape).2.1 (by omega) hroom
      exact ⟨hl, ht, by simp only; omega⟩
  dn := h.dn
  dc := by
    rw [List.map_append, List.nodup_append]
    refine ⟨h.dc, by simp, ?_⟩
    intro x hx y hy
    obtain ⟨n, hn, rfl⟩ := List.mem_map.1 hx
    simp at hy
    subst hy
    intro e
    exact hnew n hn (by simpa using e)
  clash := rfl
theorem fnd_none {α : Type} {z : α} {p : α → Bool} {xs : List α} (h : ∀ x ∈ xs, p x = false) : fnd z p xs = (z, false) := by
  unfold fnd
  rw [List.find?_eq_none.2 (fun x hx => by simp [h x hx])]
theorem fnd_some {α : Type} {z : α} {p : α → Bool} {xs : List α} {x : α} (hx : x ∈ xs) (hp : p x = true) : ∃ y ∈ xs, p y = true ∧ fnd z p xs = (y, true) := by
  unfold fnd
  cases h : xs.find? p with
  | none => exact absurd hp (by rw [List.find?_eq_none] at h; exact h x hx)
  | some y => exact ⟨y, List.mem_of_find?_eq_some h, List.find?_some h, rfl⟩
theorem nodup_map {α β : Type} {f : α → β} : ∀ {xs : List α}, (xs.map f).Nodup → ∀ {x y : α}, x ∈ xs → y ∈ xs → f x = f y → x = y
  | [], _, _, _, hx, _, _ => by cases hx
  | z :: zs, h, x, y, hx, hy, e => by
    simp only [List.map_cons, List.nodup_cons] at h
    rcases List.mem_cons.1 hx with rfl | hx' <;> rcases List.mem_cons.1 hy with rfl | hy'
    · rfl
    · exact absurd (by rw [e]; exact List.mem_map_of_mem hy') h.1
    · exact absurd (by rw [← e]; exact List.mem_map_of_mem hx') h.1
    · exact nodup_map h.2 hx' hy' e
theorem label_new (h : RightS b a ns cs cl) {t : ByteArray} (ht : t.size ≤ 100) (hlen : ns.length < 2000) (hnew : ∀ n ∈ ns, n.f0 ≠ t) (hroom : a + 16 ≤ (b.size : Int)) (k : Nat) :
    ideal_Label.f (k + 2) b a ns cs cl t = some (cut b a 16, b, a + 16, ns ++ [⟨t, cut b a 16⟩], cs, clashP (ns ++ [⟨t, cut b a 16⟩]) cs, 0) := by
  unfold ideal_Label.f
  rw [own_eq h.len]
  simp only [Option.bind_some]
  unfold ideal_Right.f
  rw [rightP_iff.2 h]
  simp only [Option.bind_some, if_pos]
  simp only [ideal_Label.j0]
  have h1 : decide ((t.size : Int) > 100) = false := by simp; omega
  rw [h1, if_neg (by simp)]
  unfold ideal_find_51.f
  rw [fnd_none (fun n hn => by simpa using hnew n hn)]
  simp only [Option.bind_some]
  rw [if_neg (by simp), if_neg (by omega), take_eq, takeP_ok h.tape (by omega) (by omega)]
  simp only [Option.bind_some]
  rw [if_pos trivial, own_eq h.len]
  simp only [Option.bind_some]
  rw [if_pos (by have := h.len.1; omega)]
  unfold ideal_clash.f
  simp only [Option.bind_some]
  rfl
theorem label_old (h : RightS b a ns cs cl) {t : ByteArray} (ht : t.size ≤ 100) {n : S72} (hn : n ∈ ns) (e : n.f0 = t) (k : Nat) :
    ideal_Label.f (k + 1) b a ns cs cl t = some (n.f1, b, a, ns, cs, cl, 0) := by
  unfold ideal_Label.f
  rw [own_eq h.len]
  simp only [Option.bind_some]
  unfold ideal_Right.f
  rw [rightP_iff.2 h]
  simp only [Option.bind_some, if_pos]
  simp only [ideal_Label.j0]
  have h1 : decide ((t.size : Int) > 100) = false := by simp; omega
  rw [h1, if_neg (by simp)]
  unfold ideal_find_51.f
  obtain ⟨y, hy, hp, hf⟩ := fnd_some (z := z72) (p := fun n => decide (n.f0 = t)) hn (by simpa using e)
  rw [hf]
  simp only [Option.bind_some]
  rw [if_pos trivial]
  have : y = n := nodup_map h.dn hy hn (by simp at hp; rw [hp, e])
  rw [this]
theorem seal_new (h : RightS b a ns cs cl) {l t : ByteArray} (hl : l.size = 16) (ht : t.size = 24) (hlen : cs.length < 2000) (hnew : ∀ c ∈ cs, ¬ (c.f0 = l ∧ c.f1 = t)) (hroom : a + 40 ≤ (b.size : Int)) (k : Nat) :
    ideal_Seal.f (k + 2) b a ns cs cl l t = some (cut b a 40, b, a + 40, ns, cs ++ [⟨l, t, cut b a 40⟩], clashP ns (cs ++ [⟨l, t, cut b a 40⟩]), 0) := by
  unfold ideal_Seal.f
  rw [own_eq h.len]
  simp only [Option.bind_some]
  unfold ideal_Right.f
  rw [rightP_iff.2 h]
  simp only [Option.bind_some, if_pos]
  rw [if_pos (by omega)]
  simp only [ideal_Seal.j0]
  have h1 : ((t.size : Int) != 24) = false := by simp; omega
  rw [h1, if_neg (by simp)]
  unfold ideal_find_66.f
  rw [fnd_none (fun n hn => by have := hnew n hn; by_cases e : n.f0 = l <;> simp_all)]
  simp only [Option.bind_some]
  rw [if_neg (by simp), if_neg (by omega), take_eq, takeP_ok h.tape (by omega) (by omega)]
  simp only [Option.bind_some]
  rw [if_pos trivial, own_eq h.len]
  simp only [Option.bind_some]
  rw [if_pos (by have := h.len.2; omega)]
  unfold ideal_clash.f
  simp only [Option.bind_some]
  rfl
theorem open_eq (h : RightS b a ns cs cl) (l x : ByteArray) : ideal_Open.f b a ns cs cl l x = some (match cs.find? (fun n => decide (n.f0 = l) && decide (n.f2 = x)) with | some c => (c.f1, 0) | none => (⟨#[]⟩, 11)) := by
  unfold ideal_Open.f
  unfold ideal_Right.f
  rw [rightP_iff.2 h]
  simp only [Option.bind_some, if_pos]
  unfold ideal_find_67.f fnd
  cases hf : cs.find? (fun n => decide (n.f0 = l) && decide (n.f2 = x)) with
  | none => simp
  | some y => simp
theorem new_eq (h : rightB b a = true) : ideal_New.f b a = some (b, a, [], [], false, 0) := by
  unfold ideal_New.f
  rw [right_eq, h]
  rfl
theorem new_right (h : rightB b a = true) : RightS b a [] [] false where
  tape := h
  len := by simp
  names := by simp
  cells := by simp
  dn := by simp
  dc := by simp
  clash := by rfl
end
end Go.Proofs.Ytmkncddbecmlpaa.Pr
end
section
set_option linter.unusedVariables false
namespace Go.Proofs.Ytmkncddbecmlpaa.Pr
open Go.RowKit Go.Proofs.YtmkncddbecmlpaaW.PrintWords Go.Proofs.YtmkncddbecmlpaaW.PrintLast Go.Proofs.YtmkncddbecmlpaaW.PrintMore
section
variable {b : ByteArray} {a : Int} {ns : List S72} {cs : List S74} {cl : Bool}
theorem same_l1 (hl : cs.length ≤ 2000) : ∀ (d i k : Nat), i + d = cs.length → d < k → columbariumref08_Same.l1 k i b a ns cs cl b a ns cs cl = some true := by
  intro d
  induction d with
  | zero =>
    intro i k h hk
    obtain ⟨k, rfl⟩ : ∃ m, k = m + 1 := ⟨k - 1, by omega⟩
    simp only [columbariumref08_Same.l1]
    rw [if_neg (by omega)]
  | succ d ih =>
    intro i k h hk
    obtain ⟨k, rfl⟩ : ∃ m, k = m + 1 := ⟨k - 1, by omega⟩
    simp only [columbariumref08_Same.l1]
    rw [if_pos (by omega), if_pos (by omega), if_pos (by omega), if_neg (by simp), show wrap64 ((i : Int) + 1) = ((i + 1 : Nat) : Int) from by unfold wrap64; omega]
    exact ih (i + 1) k (by omega) (by omega)
theorem same_l0 (hl : cs.length ≤ 2000) (hl2 : ns.length ≤ 2000) : ∀ (d i k : Nat), i + d = ns.length → d + cs.length + 1 < k → columbariumref08_Same.l0 k i b a ns cs cl b a ns cs cl = some true := by
  intro d
  induction d with
  | zero =>
    intro i k h hk
    obtain ⟨k, rfl⟩ : ∃ m, k = m + 1 := ⟨k - 1, by omega⟩
    simp only [columbariumref08_Same.l0]
    rw [if_neg (by omega)]
    exact same_l1 hl cs.length 0 k (by omega) (by omega)
  | succ d ih =>
    intro i k h hk
    obtain ⟨k, rfl⟩ : ∃ m, k = m + 1 := ⟨k - 1, by omega⟩
    simp only [columbariumref08_Same.l0]
    rw [if_pos (by omega), if_pos (by omega), if_pos (by omega), if_neg (by simp), show wrap64 ((i : Int) + 1) = ((i + 1 : Nat) : Int) from by unfold wrap64; omega]
    exact ih (i + 1) k (by omega) (by omega)
theorem same_refl (hl : ns.length ≤ 2000 ∧ cs.length ≤ 2000) {k : Nat} (hk : ns.length + cs.length + 2 < k) : columbariumref08_Same.f k b a ns cs cl b a ns cs cl = some true := by
  obtain ⟨k, rfl⟩ : ∃ m, k = m + 1 := ⟨k - 1, by omega⟩
  unfold columbariumref08_Same.f
  rw [if_neg (by simp), if_neg (by simp), if_pos rfl]
  simp only [columbariumref08_Same.j0]
  rw [if_neg (by simp)]
  exact same_l0 hl.2 hl.1 ns.length 0 k (by omega) (by omega)
theorem label_short (h : RightS b a ns cs cl) {t : ByteArray} (ht : t.size ≤ 100) (hlen : ns.length < 2000) (hnew : ∀ n ∈ ns, n.f0 ≠ t) (hroom : ¬ a + 16 ≤ (b.size : Int)) (k : Nat) :
    ideal_Label.f (k + 2) b a ns cs cl t = some (⟨#[]⟩, b, a, ns, cs, cl, 12) := by
  unfold ideal_Label.f
  rw [own_eq h.len]
  simp only [Option.bind_some]
  unfold ideal_Right.f
  rw [rightP_iff.2 h]
  simp only [Option.bind_some, if_pos]
  simp only [ideal_Label.j0]
  have h1 : decide ((t.size : Int) > 100) = false := by simp; omega
  rw [h1, if_neg (by simp)]
  unfold ideal_find_51.f
  rw [fnd_none (fun n hn => by simpa using hnew n hn)]
  simp only [Option.bind_some]
  rw [if_neg (by simp), if_neg (by omega), take_eq, takeP_short h.tape (by omega) (by omega)]
  simp only [Option.bind_some]
  rw [if_neg (by simp)]
end
def tape16 : ByteArray := ⟨#[97, 98, 99, 100, 101, 102, 103, 104, 105, 106, 107, 108, 109, 110, 111, 112]⟩
theorem awake8 (k : Nat) : columbariumlaw08_awake.f (k + 5) = some true := by
  have h0 : rightB tape16 0 = true := by rfl
  have hR := new_right h0
  have hx : ((⟨#[120]⟩ : ByteArray)).size ≤ 100 := by decide
  have hy : ((⟨#[121]⟩ : ByteArray)).size ≤ 100 := by decide
  have hroom : (0 : Int) + 16 ≤ (tape16.size : Int) := by decide
  have hc : cut tape16 0 16 = tape16 := by rfl
  have hR2 := hR.name hx (by simp) (by simp) hroom
  have hL := label_new hR hx (by simp) (by simp) hroom (k + 3)
  rw [hc] at hR2 hL
  unfold columbariumlaw08_awake.f
  show (ideal_New.f tape16 0).bind _ = _
  rw [new_eq h0]
  simp only [Option.bind_some]
  rw [hL]
  simp only [Option.bind_some]
  rw [label_old hR2 hx (List.mem_append_right _ (List.mem_singleton.2 rfl)) rfl]
  simp only [Option.bind_some]
  rw [label_short hR2 hy (by simp) (by simp) (by decide)]
  simp only [Option.bind_some]
  rw [open_eq hR]
  simp only [Option.bind_some]
  have hN : ideal_New.f (⟨#[]⟩ : ByteArray) 1 = some (⟨#[]⟩, 0, [], [], false, 1) := by rfl
  rw [hN]
  simp only [Option.bind_some]
  rw [if_pos trivial, if_pos (by rw [ByteArray.toList_eq]; rfl), if_pos trivial, if_pos trivial, if_pos trivial, same_refl hR2.len (by simp), Option.bind_some]
  simp only [List.find?_nil, if_pos]
  unfold ideal_Right.f
  rw [rightP_iff.2 hR2]
  rfl
theorem pick8 {a n : Int} (hw : (Lit.int .i64 a).wf = true) (hn : 0 < n) : ∃ r, columbariumlaw08_pick.f a n = some r ∧ 0 ≤ r ∧ r < n := by
  unfold columbariumlaw08_pick.f
  have hr : -9223372036854775808 ≤ a ∧ a ≤ 9223372036854775807 := bounds_i64 hw
  by_cases h : a < 0
  · have e1 : wrap64 (a + 1) = a + 1 := by unfold wrap64; omega
    have e2 : wrap64 (-(a + 1)) = -(a + 1) := by unfold wrap64; omega
    rw [if_pos h, if_neg (by omega), e1, e2, Int.tmod_eq_emod_of_nonneg (by omega)]
    exact ⟨_, rfl, Int.emod_nonneg _ (by omega), Int.emod_lt_of_pos _ hn⟩
  · rw [if_neg h, if_neg (by omega), Int.tmod_eq_emod_of_nonneg (by omega)]
    exact ⟨_, rfl, Int.emod_nonneg _ (by omega), Int.emod_lt_of_pos _ hn⟩
theorem rd_wf {xs : List Int} (h : ∀ x ∈ xs, (Lit.int .i64 x).wf = true) {i : Int} (h0 : 0 ≤ i) (h1 : i < xs.length) : (Lit.int .i64 (rd xs i)).wf = true := by
  unfold rd
  have hi : i.toNat < xs.length := by omega
  have : xs.getD i.toNat 0 = xs[i.toNat] := by simp [hi]
  first
  | (rw [this]; exact h _ (List.getElem_mem hi))
  | (simp [hi]; exact h _ (List.getElem_mem hi))
theorem draws8 {x0 : List Int} (hw : ∀ x ∈ x0, (Lit.int .i64 x).wf = true) (hx : x0.length ≤ maxLen) (x1 : Bool) : ∀ (d : Nat) (x5 : List Int) (k : Nat), x5.length + d = 2000 → 2 * d < k → ∃ b, columbariumlaw08_Draws.l0 k x0 x1 x5 x5.length = some (b, 0) ∧ b.size = 2000 := by
  intro d
  induction d with
  | zero =>
    intro x5 k h hk
    obtain ⟨k, rfl⟩ : ∃ m, k = m + 1 := ⟨k - 1, by omega⟩
    simp only [columbariumlaw08_Draws.l0]
    rw [if_neg (by omega)]
    exact ⟨_, rfl, by rw [strOfNums_size]; omega⟩
  | succ d ih =>
    intro x5 k h hk
    obtain ⟨k, rfl⟩ : ∃ m, k = m + 1 + 1 := ⟨k - 2, by omega⟩
    have hnext : ∀ v, ∃ b, columbariumlaw08_Draws.l0 k x0 x1 (x5 ++ [v]) (wrap64 ((x5.length : Int) + 1)) = some (b, 0) ∧ b.size = 2000 := fun v => by
      rw [show wrap64 ((x5.length : Int) + 1) = (((x5 ++ [v]).length : Nat) : Int) from by simp; unfold wrap64; omega]
      exact ih (x5 ++ [v]) k (by simp; omega) (by omega)
    have hj : ∀ x7, ∃ b, columbariumlaw08_Draws.j1 (k + 1) x0 x1 x5 x5.length x7 = some (b, 0) ∧ b.size = 2000 := fun x7 => by
      simp only [columbariumlaw08_Draws.j1]
      have hl : x5.length < 140737488355328 := by omega
      have e8 : wrap64 (Int.tdiv (x5.length : Int) 8) = (x5.length : Int) / 8 := by rw [Int.tdiv_eq_ediv_of_nonneg (by omega)]; unfold wrap64; omega
      cases x1
      · rw [if_neg (by simp), if_pos hl]
        exact hnext _
      · rw [if_pos rfl]
        by_cases h8 : Int.tmod (x5.length : Int) 8 = 0
        · rw [if_pos h8]
          by_cases hp : (x0.length : Int) > 0
          · have hm0 : 0 ≤ Int.tmod (wrap64 (Int.tdiv (x5.length : Int) 8)) (x0.length : Int) := by rw [e8]; exact Int.tmod_nonneg _ (by omega)
            have hm1 : Int.tmod (wrap64 (Int.tdiv (x5.length : Int) 8)) (x0.length : Int) < (x0.length : Int) := by rw [e8]; exact Int.tmod_lt_of_pos _ hp
            rw [if_pos hp, if_neg (by omega), if_pos hm0, if_pos hm1]
            obtain ⟨r, hr, _⟩ := pick8 (rd_wf hw hm0 hm1) (n := 3) (by omega)
            rw [hr]
            simp only [Option.bind_some]
            rw [if_pos hl]
            exact hnext _
          · rw [if_neg hp, if_pos hl]
            exact hnext _
        · rw [if_neg h8, if_pos hl]
          exact hnext _
    simp only [columbariumlaw08_Draws.l0]
    rw [if_pos (by omega)]
    by_cases hp : (x0.length : Int) > 0
    · have hm0 : 0 ≤ Int.tmod (x5.length : Int) (x0.length : Int) := Int.tmod_nonneg _ (by omega)
      have hm1 : Int.tmod (x5.length : Int) (x0.length : Int) < (x0.length : Int) := Int.tmod_lt_of_pos _ hp
      rw [if_pos hp, if_neg (by omega), if_pos hm0, if_pos hm1]
      obtain ⟨r, hr, _⟩ := pick8 (rd_wf hw hm0 hm1) (n := 256) (by omega)
      rw [hr]
      simp only [Option.bind_some]
      exact hj _
    · rw [if_neg hp]
      exact hj _
theorem draws_eq {x0 : List Int} (hw : ∀ x ∈ x0, (Lit.int .i64 x).wf = true) (hx : x0.length ≤ maxLen) (x1 : Bool) {k : Nat} (hk : 4000 < k) : ∃ b, columbariumlaw08_Draws.f k x0 x1 = some (b, 0) ∧ b.size = 2000 :=
  draws8 hw hx x1 2000 [] k rfl (by omega)
theorem sn_append (xs ys : List Int) : strOfNums xs ++ strOfNums ys = strOfNums (xs ++ ys) := by
  apply ByteArray.ext
  simp [strOfNums, ByteArray.data_append]
theorem sn_inj {xs ys : List Int} (hx : ∀ x ∈ xs, 0 ≤ x ∧ x < 256) (hy : ∀ x ∈ ys, 0 ≤ x ∧ x < 256) (h : strOfNums xs = strOfNums ys) : xs = ys := by
  have h1 : (xs.map fun n => UInt8.ofNat n.toNat) = ys.map fun n => UInt8.ofNat n.toNat := by
    have := congrArg (fun b : ByteArray => b.data.toList) h
    simpa [strOfNums] using this
  have hl : xs.length = ys.length := by simpa using congrArg List.length h1
  refine List.ext_getElem hl (fun i h2 h3 => ?_)
  have h4 : (xs.map fun n => UInt8.ofNat n.toNat)[i]'(by simpa using h2) = (ys.map fun n => UInt8.ofNat n.toNat)[i]'(by simpa using h3) := by simp only [h1]
  simp only [List.getElem_map] at h4
  have h5 := hx _ (List.getElem_mem h2)
  have h6 := hy _ (List.getElem_mem h3)
  have h7 := congrArg UInt8.toNat h4
  rw [UInt8.toNat_ofNat', UInt8.toNat_ofNat'] at h7
  omega
end Go.Proofs.Ytmkncddbecmlpaa.Pr
end
section
set_option linter.unusedVariables false
namespace Go.Proofs.Ytmkncddbecmlpaa.Pure
open Go.RowKit Go.Proofs.Ytmkncddbecmlpaa.Pr Go.Proofs.YtmkncddbecmlpaaW.PrintWords Go.Proofs.YtmkncddbecmlpaaW.PrintLast
def zs (n : Nat) : List Int := List.replicate n 0
theorem zs_mem {n : Nat} {x : Int} (h : x ∈ zs n) : x = 0 := List.eq_of_mem_replicate h
structure HInv (m : Int) (i : Nat) (b : ByteArray) (a : Int) (nsA : List S72) (csA : List S74) (clA : Bool) (nsB : List S72) (csB : List S74) (clB : Bool) : Prop where
  rA : RightS b a nsA csA clA
  rB : RightS b a nsB csB clB
  room : a ≤ 40 * i
  lA : nsA.length ≤ i ∧ csA.length ≤ i
  lB : nsB.length ≤ i ∧ csB.length ≤ i
  nA : ∀ n ∈ nsA, ∃ j : Nat, j < i ∧ n.f0 = strOfNums [(j : Int)]
  nB : ∀ n ∈ nsB, ∃ j : Nat, j < i ∧ n.f0 = strOfNums [(j : Int) + 1 + m, 121]
  cA : ∀ c ∈ csA, ∃ j : Nat, j < i ∧ c.f0 = strOfNums ([(j : Int)] ++ zs 15)
  cB : ∀ c ∈ csB, ∃ j : Nat, j < i ∧ c.f0 = strOfNums (zs 15 ++ [(j : Int)])
theorem hangs_l0 {xs : List Int} (hxs : xs.length ≤ maxLen) (hw : ∀ x ∈ xs, (Lit.int .i64 x).wf = true) {a3 : Int} (h3 : (Lit.int .i64 a3).wf = true) {m : Int} (hm : columbariumlaw08_pick.f a3 200 = some m) (hm0 : 0 ≤ m) (hm1 : m < 200) {b : ByteArray} (hb : b.size = 2000) :
    ∀ (d i k : Nat) (a : Int) (nsA : List S72) (csA : List S74) (clA : Bool) (nsB : List S72) (csB : List S74) (clB : Bool), i + d = 15 → 2 * d + 3 < k → HInv m i b a nsA csA clA nsB csB clB →
      columbariumlaw08_IdealHangs.l0 k xs a3 true i b a nsA csA clA b a nsB csB clB = some true := by
  intro d
  induction d with
  | zero =>
    intro i k a nsA csA clA nsB csB clB h hk H
    obtain ⟨k, rfl⟩ : ∃ q, k = q + 1 + 1 := ⟨k - 2, by omega⟩
    simp only [columbariumlaw08_IdealHangs.l0]
    have e : decide ((i : Int) < 15) = false := by simp; omega
    rw [e, ite_self]
    simp only [columbariumlaw08_IdealHangs.j2]
    rw [if_neg (by simp)]
  | succ d ih =>
    intro i k a nsA csA clA nsB csB clB h hk H
    obtain ⟨k, rfl⟩ : ∃ q, k = q + 2 + 1 + 1 := ⟨k - 4, by omega⟩
    simp only [columbariumlaw08_IdealHangs.l0]
    have e : decide ((i : Int) < 15) = true := by simp; omega
    by_cases hlt : (i : Int) < (xs.length : Int)
    case neg =>
      rw [if_neg hlt]
      simp only [columbariumlaw08_IdealHangs.j2]
      rw [if_neg (by simp)]
    rw [if_pos hlt, e]
    simp only [columbariumlaw08_IdealHangs.j2, if_pos, Option.bind_some]
    have e0 : (i : Int) % 256 = i := by omega
    have e1 : wrap64 ((i : Int) + 1) = (i : Int) + 1 := by unfold wrap64; omega
    have e2 : wrap64 ((i : Int) + 1 + m) = (i : Int) + 1 + m := by unfold wrap64; omega
    have e3 : ((i : Int) + 1 + m) % 256 = (i : Int) + 1 + m := by omega
    rw [hm, Option.bind_some, if_pos (by omega), if_pos hlt]
    obtain ⟨p, hp, hp0, hp1⟩ := pick8 (rd_wf hw (by omega) hlt) (n := 2) (by omega)
    rw [hp, Option.bind_some, e0, e1, e2, e3]
    have inA : ∀ (n : S72), n ∈ nsA → n.f0 ≠ strOfNums [(i : Int)] := fun n hn q => by
      obtain ⟨j, hj, hq⟩ := H.nA n hn
      rw [hq] at q
      have := sn_inj (by simp; omega) (by simp; omega) q
      simp at this
      omega
    have inB : ∀ (n : S72), n ∈ nsB → n.f0 ≠ strOfNums [(i : Int) + 1 + m, 121] := fun n hn q => by
      obtain ⟨j, hj, hq⟩ := H.nB n hn
      rw [hq] at q
      have := sn_inj (by simp; omega) (by simp; omega) q
      simp at this
      omega
    have small : ∀ x : Int, x ∈ zs 15 → 0 ≤ x ∧ x < 256 := fun x hx => by rw [zs_mem hx]; omega
    have ceA : ∀ (c : S74) (t : ByteArray), c ∈ csA → ¬ (c.f0 = strOfNums ([(i : Int)] ++ zs 15) ∧ c.f1 = t) := fun c t hc q => by
      obtain ⟨j, hj, hq⟩ := H.cA c hc
      have q := q.1
      rw [hq] at q
      have := sn_inj (by intro x hx; rcases List.mem_append.1 hx with hx | hx; (simp at hx; omega); exact small x hx) (by intro x hx; rcases List.mem_append.1 hx with hx | hx; (simp at hx; omega); exact small x hx) q
      simp at this
      omega
    have ceB : ∀ (c : S74) (t : ByteArray), c ∈ csB → ¬ (c.f0 = strOfNums (zs 15 ++ [(i : Int)]) ∧ c.f1 = t) := fun c t hc q => by
      obtain ⟨j, hj, hq⟩ := H.cB c hc
      have q := q.1
      rw [hq] at q
      have := sn_inj (by intro x hx; rcases List.mem_append.1 hx with hx | hx; exact small x hx; (simp at hx; omega)) (by intro x hx; rcases List.mem_append.1 hx with hx | hx; exact small x hx; (simp at hx; omega)) q
      simp at this
      omega
    have hlA := H.lA
    have hlB := H.lB
    have hrm := H.room
    by_cases hp2 : p = 0
    · rw [if_pos hp2]
      have r1 : a + 16 ≤ (b.size : Int) := by omega
      have tA : (strOfNums [(i : Int)]).size ≤ 100 := by rw [strOfNums_size]; simp
      have tB : (strOfNums [(i : Int) + 1 + m, 121]).size ≤ 100 := by rw [strOfNums_size]; simp
      rw [label_new H.rA tA (by omega) inA r1 k, Option.bind_some, label_new H.rB tB (by omega) inB r1 k, Option.bind_some]
      dsimp only
      rw [if_pos rfl, if_pos rfl, if_pos rfl, if_neg (by simp)]
      refine ih (i + 1) (k + 2) _ _ _ _ _ _ _ (by omega) (by omega) ⟨H.rA.name tA (by omega) inA r1, H.rB.name tB (by omega) inB r1, by omega, by simp; omega, by simp; omega, ?_, ?_, ?_, ?_⟩
      · intro n hn
        rcases List.mem_append.1 hn with hn | hn
        · obtain ⟨j, hj, hq⟩ := H.nA n hn; exact ⟨j, by omega, hq⟩
        · obtain rfl := List.mem_singleton.1 hn; exact ⟨i, by omega, rfl⟩
      · intro n hn
        rcases List.mem_append.1 hn with hn | hn
        · obtain ⟨j, hj, hq⟩ := H.nB n hn; exact ⟨j, by omega, hq⟩
        · obtain rfl := List.mem_singleton.1 hn; exact ⟨i, by omega, rfl⟩
      · intro c hc; obtain ⟨j, hj, hq⟩ := H.cA c hc; exact ⟨j, by omega, hq⟩
      · intro c hc; obtain ⟨j, hj, hq⟩ := H.cB c hc; exact ⟨j, by omega, hq⟩
    · rw [if_neg hp2, if_pos (by decide)]
      have r1 : a + 40 ≤ (b.size : Int) := by omega
      rw [if_pos (by rw [strOfNums_size, strOfNums_size]; simp), if_pos (by decide), sn_append]
      have tA : (strOfNums ([(i : Int)] ++ List.replicate 15 0)).size = 16 := by rw [strOfNums_size]; simp
      have tB : (strOfNums (List.replicate 15 0 ++ [(i : Int)])).size = 16 := by rw [strOfNums_size]; simp
      have uA : (strOfNums (List.replicate 24 0)).size = 24 := by rw [strOfNums_size]; simp
      have uB : (strOfNums ([(i : Int)] ++ List.replicate 23 0)).size = 24 := by rw [strOfNums_size]; simp
      rw [seal_new H.rA tA uA (by omega) (fun c hc => ceA c _ hc) r1 k, Option.bind_some]
      rw [if_pos (by rw [strOfNums_size, strOfNums_size]; simp), if_pos (by decide), if_pos (by rw [strOfNums_size, strOfNums_size]; simp), sn_append, sn_append, seal_new H.rB tB uB (by omega) (fun c hc => ceB c _ hc) r1 k, Option.bind_some]
      dsimp only
      rw [if_pos rfl, if_pos rfl, if_pos rfl, if_neg (by simp)]
      refine ih (i + 1) (k + 2) _ _ _ _ _ _ _ (by omega) (by omega) ⟨H.rA.cell tA uA (by omega) (fun c hc => ceA c _ hc) r1, H.rB.cell tB uB (by omega) (fun c hc => ceB c _ hc) r1, by omega, by simp; omega, by simp; omega, ?_, ?_, ?_, ?_⟩
      · intro c hc; obtain ⟨j, hj, hq⟩ := H.nA c hc; exact ⟨j, by omega, hq⟩
      · intro c hc; obtain ⟨j, hj, hq⟩ := H.nB c hc; exact ⟨j, by omega, hq⟩
      · intro n hn
        rcases List.mem_append.1 hn with hn | hn
        · obtain ⟨j, hj, hq⟩ := H.cA n hn; exact ⟨j, by omega, hq⟩
        · obtain rfl := List.mem_singleton.1 hn; exact ⟨i, by omega, rfl⟩
      · intro n hn
        rcases List.mem_append.1 hn with hn | hn
        · obtain ⟨j, hj, hq⟩ := H.cB n hn; exact ⟨j, by omega, hq⟩
        · obtain rfl := List.mem_singleton.1 hn; exact ⟨i, by omega, rfl⟩
theorem IdealHangs : columbariumlaw08_IdealHangs.Pure := by
  intro l0 a1 l2 a3 h0 h1 h2 h3 h4 h5 h6
  obtain ⟨b, hb, hs⟩ := draws_eq h2 h0 a1 (k := 5001) (by omega)
  obtain ⟨m, hm, hm0, hm1⟩ := pick8 h6 (n := 200) (by omega)
  have hr : rightB b 0 = true := rightB_iff.2 ⟨by omega, by omega, by omega⟩
  refine ⟨5001, ?_⟩
  unfold columbariumlaw08_IdealHangs.f
  rw [awake8 4996, hb]
  simp only [Option.bind_some, new_eq hr, if_pos]
  simp only [columbariumlaw08_IdealHangs.j0]
  rw [if_neg (by simp)]
  exact hangs_l0 h3 h5 h6 hm hm0 hm1 hs 15 0 5000 0 [] [] false [] [] false (by omega) (by omega)
    ⟨new_right hr, new_right hr, by simp, by simp, by simp, by simp, by simp, by simp, by simp⟩
end Go.Proofs.Ytmkncddbecmlpaa.Pure
end
