/-
  TapeTurns: what is turned over keeps its things, each once, and draws two bytes for each but the last; where the tape is too short nothing is drawn: the law returns true for every input. No condition.
-/
import Derived.Test.YtmkncddbecmlpaaPrFcolumbariumlaw07TapeTurns
import Derived.Test.YtmkncddbecmlpaaXAwake
set_option linter.unusedVariables false
namespace Go.Proofs.Ytmkncddbecmlpaa.Pure
open Go.RowKit Go.Proofs.Ytmkncddbecmlpaa.Pr Go.Proofs.YtmkncddbecmlpaaW.PrintWords Go.Proofs.YtmkncddbecmlpaaW.PrintLast Go.Proofs.YtmkncddbecmlpaaW.PrintMore

theorem rd_at {xs : List Int} {i : Int} (h0 : 0 ≤ i) (h : i.toNat < xs.length) : rd xs i = xs[i.toNat] := by
  unfold rd
  rw [List.getD_eq_getElem?_getD, List.getElem?_eq_getElem h]
  rfl
theorem swap_perm {xs : List Int} {i j : Int} (h0 : 0 ≤ i) (h1 : i < xs.length) (h2 : 0 ≤ j) (h3 : j < xs.length) : ((xs.set i.toNat (rd xs j)).set j.toNat (rd xs i)).Perm xs := by
  rw [rd_at h0 (by omega), rd_at h2 (by omega)]
  exact List.set_set_perm (by omega) (by omega)
/-- The rounds of Turn, as far as the tape lasts. -/
theorem run_ok {b : ByteArray} {p : Int} {n : Nat} {L : List Int} (hn : L.length = n) (hn2 : n ≤ 1000) (hr : rightB b p = true) : ∀ k, k + 1 ≤ n → 2 * (k : Int) ≤ (b.size : Int) - p → ∃ L', turnRun n k (L, b, p) = .inl (L', b, p + 2 * k) ∧ L'.Perm L
  | 0, _, _ => ⟨L, by simp [turnRun], List.Perm.refl _⟩
  | k + 1, h, h2 => by
    obtain ⟨L', hL, hp⟩ := run_ok hn hn2 hr k (by omega) (by omega)
    obtain ⟨r1, r2, r3⟩ := rightB_iff.1 hr
    have hr' : rightB b (p + 2 * k) = true := rightB_iff.2 ⟨r1, by omega, by omega⟩
    have hlen : L'.length = n := hp.length_eq.trans hn
    simp only [turnRun]
    rw [hL]
    simp only [turnStep]
    have hnum := numP_ok hr' (show 1 ≤ (n : Int) - 1 - k + 1 by omega) (show (n : Int) - 1 - k + 1 ≤ 65536 by omega) (by omega)
    have he := @numP_err b (p + 2 * k) ((n : Int) - 1 - k + 1) (by omega)
    rw [hnum] at he ⊢
    obtain ⟨q0, q1⟩ := he rfl
    refine ⟨_, by rw [if_pos rfl, show p + 2 * ((k + 1 : Nat) : Int) = p + 2 * k + 2 from by omega], ?_⟩
    exact (swap_perm q0 (by omega) (by omega) (by omega)).trans hp
theorem run_short {b : ByteArray} {p : Int} {n : Nat} {L : List Int} (hn : L.length = n) (hn2 : n ≤ 1000) (hr : rightB b p = true) (h2 : (b.size : Int) - p < 2 * ((n - 1 : Nat) : Int)) : turnRun n (n - 1) (L, b, p) = .inr 12 := by
  obtain ⟨r1, r2, r3⟩ := rightB_iff.1 hr
  obtain ⟨k, hk⟩ : ∃ k : Nat, (k : Int) = ((b.size : Int) - p) / 2 := ⟨(((b.size : Int) - p) / 2).toNat, by omega⟩
  obtain ⟨L', hL, hp⟩ := run_ok hn hn2 hr k (by omega) (by omega)
  have hr' : rightB b (p + 2 * k) = true := rightB_iff.2 ⟨r1, by omega, by omega⟩
  have h1 : turnRun n (k + 1) (L, b, p) = .inr 12 := by
    simp only [turnRun]
    rw [hL]
    simp only [turnStep]
    rw [numP_short hr' (by omega) (by omega) (by omega)]
    rfl
  have h3 := turnRun_stop h1 (n - 1 - (k + 1))
  rwa [show k + 1 + (n - 1 - (k + 1)) = n - 1 from by omega] at h3
theorem turn_eq {b : ByteArray} {p : Int} {L : List Int} (hn2 : L.length ≤ 1000) (hr : rightB b p = true) : tape_Turn.f b p L = tape_Turn.rest b p L b p L := by
  unfold tape_Turn.f
  rw [right_eq, hr]
  simp only [Option.bind_some]
  rw [if_pos trivial, if_neg (by omega), show slices_Clone_int_int.f L = some L from by unfold slices_Clone_int_int.f; rw [if_pos (by omega)]]
  rfl

def rg (n : Nat) : List Int := List.map (fun i : Nat => (i : Int)) (List.range n)
theorem rg_len (n : Nat) : (rg n).length = n := by simp [rg]
theorem rg_succ (n : Nat) : rg n ++ [(n : Int)] = rg (n + 1) := by simp [rg, List.range_succ]
theorem rg_mem {n : Nat} {x : Int} : x ∈ rg n ↔ 0 ≤ x ∧ x < n := by
  simp only [rg, List.mem_map, List.mem_range]
  constructor
  · rintro ⟨a, ha, rfl⟩; omega
  · intro h; exact ⟨x.toNat, by omega, by omega⟩
theorem rg_nodup (n : Nat) : (rg n).Nodup := by
  unfold rg
  refine List.Pairwise.map _ (fun a b h hc => h (by omega)) List.nodup_range

/-- Each thing is there once: none is seen twice. -/
theorem l1_ok {n : Nat} {L : List Int} (hL : L.length = n) (hn : n ≤ 1000) (hm : ∀ x ∈ L, 0 ≤ x ∧ x < n) (hd : L.Nodup) (r : Nat) : ∀ (d j : Nat) (S : List Bool), j + d = n → S.length = n → (∀ i, (h : i < L.length) → j ≤ i → S.getD (L[i]).toNat false = false) →
    columbariumlaw07_TapeTurns.l1 (r + d + 1) true n L S j = some true
  | 0, j, S, hj, hS, hI => by
    simp only [columbariumlaw07_TapeTurns.l1]
    rw [if_neg (by omega)]
  | d + 1, j, S, hj, hS, hI => by
    have hjl : j < L.length := by omega
    have e : rd L (j : Int) = L[j] := by rw [rd_at (by omega) (by omega)]; rfl
    obtain ⟨h0, h1⟩ := hm L[j] (List.getElem_mem hjl)
    simp only [columbariumlaw07_TapeTurns.l1]
    rw [e, if_pos (by omega), if_pos (by omega), if_pos (by omega), if_neg (by omega), if_neg (by omega), if_pos h0, if_pos (by omega)]
    have hs : rdOf false S L[j] = false := hI j hjl (Nat.le_refl _)
    rw [hs, if_neg (by simp), show wrap64 ((j : Int) + 1) = ((j + 1 : Nat) : Int) from by unfold wrap64; omega]
    refine l1_ok hL hn hm hd r d (j + 1) _ (by omega) (by simpa using hS) ?_
    intro i hi hji
    obtain ⟨k0, k1⟩ := hm L[i] (List.getElem_mem hi)
    have hne : L[j] ≠ L[i] := (List.pairwise_iff_getElem.1 hd) j i hjl hi (by omega)
    have hne2 : (L[j]).toNat ≠ (L[i]).toNat := by omega
    have := hI i hi (by omega)
    rw [List.getD_eq_getElem?_getD] at this ⊢
    rwa [List.getElem?_set_ne hne2]

/-- The things to turn are laid out first. -/
theorem l0_ok {n : Nat} (hn : n ≤ 1000) (b : ByteArray) (p : Int) (r : Nat) : ∀ (d j : Nat), j + d = n →
    columbariumlaw07_TapeTurns.l0 (r + d + 1) true n (rg j) j b p = columbariumlaw07_TapeTurns.l0 (r + 1) true n (rg n) n b p
  | 0, j, h => by
    have : j = n := by omega
    subst this
    rfl
  | d + 1, j, h => by
    rw [← l0_ok hn b p r d (j + 1) (by omega)]
    show columbariumlaw07_TapeTurns.l0 ((r + d + 1) + 1) true n (rg j) j b p = _
    rw [columbariumlaw07_TapeTurns.l0, if_pos (by omega), if_pos (by rw [rg_len]; omega), rg_succ, show wrap64 ((j : Int) + 1) = ((j + 1 : Nat) : Int) from by unfold wrap64; omega]

theorem TapeTurns : columbariumlaw07_TapeTurns.Pure := by
  intro a0 a1 a2 h0 h1 h2
  obtain ⟨b, p, ht, hb, hp, hp2, hr⟩ := tape_eq a0 h1 h0
  obtain ⟨n', hpick, hr0, hr1⟩ := pick_eq (n := 40) h2 (by omega) (by omega)
  obtain ⟨n, rfl⟩ := Int.eq_ofNat_of_zero_le hr0
  have hn : n < 40 := by omega
  refine ⟨((0 + n + 1) + 1 + 1) + n + 1, ?_⟩
  have hL : leftP b p = (b.size : Int) - p := if_pos hr
  unfold columbariumlaw07_TapeTurns.f
  rw [show ((0 + n + 1) + 1 + 1) + n + 1 = (n + n + 2) + 2 from by omega, awake7, ht, hpick]
  simp only [Option.bind_some]
  rw [show (n + n + 2) + 2 = ((0 + n + 1) + 1 + 0) + 1 + n + 1 from by omega]
  have hl0 := l0_ok (n := n) (by omega) b p (((0 + n + 1) + 1 + 0) + 1) n 0 (by omega)
  have e0 : rg 0 = [] := rfl
  rw [e0] at hl0
  refine (show _ = _ from hl0).trans ?_
  have hmx : wrap64 (2 * (mx (wrap64 ((n : Int) - 1)) 0)) = 2 * ((n - 1 : Nat) : Int) := by
    have : wrap64 ((n : Int) - 1) = (n : Int) - 1 := by unfold wrap64; omega
    rw [this]
    unfold mx wrap64
    split <;> omega
  rw [columbariumlaw07_TapeTurns.l0, if_neg (by omega), turn_eq (by rw [rg_len]; omega) hr, left_eq, hL]
  simp only [Option.bind_some]
  unfold tape_Turn.rest
  rw [rg_len]
  by_cases hs : (b.size : Int) - p < 2 * ((n - 1 : Nat) : Int)
  · rw [run_short (rg_len n) (by omega) hr hs]
    simp only [Option.bind_some]
    rw [hmx, if_pos hs]
    simp
  · obtain ⟨L, hrun, hperm⟩ : ∃ L', turnRun n (n - 1) (rg n, b, p) = .inl (L', b, p + 2 * ((n - 1 : Nat) : Int)) ∧ L'.Perm (rg n) := by
      by_cases hz : n = 0
      · subst hz
        exact ⟨rg 0, by simp [turnRun], List.Perm.refl _⟩
      · exact run_ok (rg_len n) (by omega) hr (n - 1) (by omega) (by omega)
    have hlen : L.length = n := hperm.length_eq.trans (rg_len n)
    have hw : wrap64 (p + 2 * ((n - 1 : Nat) : Int)) = p + 2 * ((n - 1 : Nat) : Int) := by unfold wrap64; omega
    rw [hrun]
    simp only [Option.bind_some]
    rw [hmx, if_neg hs, if_pos trivial, if_pos (by rw [hlen]), hw]
    simp only [bne_self_eq_false]
    rw [columbariumlaw07_TapeTurns.j1, if_neg (by simp), if_pos (by omega), if_pos (by omega)]
    rw [show 0 + n + 2 = 1 + n + 1 from by omega]
    refine l1_ok hlen (by omega) (fun x hx => rg_mem.1 (hperm.mem_iff.1 hx)) (hperm.nodup_iff.2 (rg_nodup n)) 1 n 0 (List.replicate (n : Int).toNat false) (by omega) (by simp) ?_
    intro i hi _
    rw [List.getD_eq_getElem?_getD]
    rw [List.getElem?_replicate]
    split <;> rfl
end Go.Proofs.Ytmkncddbecmlpaa.Pure
