/-
  A part of what the row VaultCrashes reaches, laid together by a program of this session (wip/tools/shake.py) out of this seat's texts. No condition but the ones that each lemma names.
-/
import Derived.Test.YtcfinlmocgbnbaaZVaultCrashes1
import Derived.Test.YtcfinlmocgbnbaaZVaultCrashes2
import Derived.Test.YtcfinlmocgbnbaaZVaultCrashes3
set_option linter.unusedVariables false
set_option linter.unusedSimpArgs false
section
namespace Go.Proofs.Ytcfinlmocgbnbaa.Pr
open Go.RowKit Go.Shelf Go.Proofs.Ytcfinlmocgbnbaa.XB Go.Proofs.YtcfinlmocgbnbaaW.PrintWords Go.Proofs.YtcfinlmocgbnbaaW.PrintMore
set_option linter.unusedVariables false
set_option linter.unusedSimpArgs false
def beI (n : Nat) : Nat → List Int
  | 0 => []
  | k + 1 => ((n / 256 ^ k % 256 : Nat) : Int) :: beI n k
def pI (q h l : Nat) : List Int := beI q 8 ++ beI h 4 ++ beI l 4
def headP (q h l : Nat) : ByteArray := strOfNums (pI q h l ++ (pI q h l).map (fun x => 255 - x) ++ List.replicate 32 0)
def nB (g : ByteArray) (a b : Nat) : Nat := num (g.extract a b).data.toList 0
def wdN (su : List ByteArray) : Nat := (su.length - 2) / 2
def blkN (su : List ByteArray) (i : Nat) : ByteArray := rdOf ByteArray.empty su (i : Int)
def hdI (wd : Nat) (g : ByteArray) : HdI := ⟨decide (nB g 0 8 ≤ 1099511627776) && decide (nB g 8 12 < 2) && decide (nB g 12 16 ≤ 64 * wd) && decide (headP (nB g 0 8) (nB g 8 12) (nB g 12 16) = g), (nB g 0 8 : Int), (nB g 8 12 : Int), (nB g 12 16 : Int)⟩
def smallB (g : ByteArray) : Bool := decide (nB g 0 8 < 9223372036854775808)
def goodB (su : List ByteArray) (so : List S24) (q h l : Int) : Bool :=
  so.isEmpty && rightB su [] && decide (4 ≤ su.length) && decide (0 ≤ q ∧ q ≤ 1099511627776 ∧ 0 ≤ h ∧ h ≤ 1 ∧ 0 ≤ l ∧ l ≤ 64 * (wdN su : Int)) && decide (blkN su (q.toNat % 2) = headP q.toNat h.toNat l.toNat) && smallB (blkN su (1 - q.toNat % 2)) &&
    (!(hdI (wdN su) (blkN su (1 - q.toNat % 2))).is || decide ((hdI (wdN su) (blkN su (1 - q.toNat % 2))).q < q))
def textN (su : List ByteArray) (h l : Nat) : ByteArray := (joinB su (2 + h * wdN su) (wdN su)).extract 0 l
def halfN (h : Nat) (ins : Bool) : Nat := if ins = true then 1 - h else h
def allN (su : List ByteArray) (h l : Nat) (s : ByteArray) (ins : Bool) : ByteArray := if ins = true then s else textN su h l ++ s
def movesN (su : List ByteArray) (q h l : Nat) (s : ByteArray) (ins : Bool) : List S24 :=
  mvU su (allN su h l s ins) (((allN su h l s ins).size : Int) - (s.size : Int)) (2 + halfN h ins * wdN su) (wdN su) ++
    [⟨false, (((q + 1) % 2 : Nat) : Int), blank⟩, ⟨true, 0, ⟨#[]⟩⟩, ⟨false, (((q + 1) % 2 : Nat) : Int), headP (q + 1) (halfN h ins) (allN su h l s ins).size⟩, ⟨true, 0, ⟨#[]⟩⟩]
def nextB (su : List ByteArray) (so : List S24) (q h l : Int) (s : ByteArray) : Bool := goodB su so q h l && decide (q + 1 ≤ 1099511627776) && decide (s.size ≤ 1000)
def fitsB (su : List ByteArray) (h l : Nat) (s : ByteArray) (ins : Bool) : Bool := decide ((allN su h l s ins).size ≤ 64 * wdN su)
def vault_Right.f (l0_0 : List ByteArray) (l0_1 : List (S24)) (a0_2 : Int) (a0_3 : Int) (a0_4 : Int) : Option (Bool) := if goodB l0_0 l0_1 a0_2 a0_3 a0_4 = true then some true else none
def vault_Room.f (l0_0 : List ByteArray) (l0_1 : List (S24)) (a0_2 : Int) (a0_3 : Int) (a0_4 : Int) : Option (Int) := if goodB l0_0 l0_1 a0_2 a0_3 a0_4 = true then some (64 * (wdN l0_0 : Int)) else none
def vault_Moves.f (l0_0 : List ByteArray) (l0_1 : List (S24)) (a0_2 : Int) (a0_3 : Int) (a0_4 : Int) (a1 : ByteArray) (a2 : Bool) : Option ((List (S24)) × Int) :=
  if nextB l0_0 l0_1 a0_2 a0_3 a0_4 a1 = true then (if fitsB l0_0 a0_3.toNat a0_4.toNat a1 a2 = true then some (movesN l0_0 a0_2.toNat a0_3.toNat a0_4.toNat a1 a2, 0) else some ([], 2)) else none
def vault_Keep.f (l0_0 : List ByteArray) (l0_1 : List (S24)) (a0_2 : Int) (a0_3 : Int) (a0_4 : Int) (a1 : ByteArray) (a2 : Bool) : Option (List ByteArray × (List (S24)) × Int × Int × Int × Int) :=
  if nextB l0_0 l0_1 a0_2 a0_3 a0_4 a1 = true then
    (if fitsB l0_0 a0_3.toNat a0_4.toNat a1 a2 = true then some ((doB l0_0 [] (movesN l0_0 a0_2.toNat a0_3.toNat a0_4.toNat a1 a2)).1, (doB l0_0 [] (movesN l0_0 a0_2.toNat a0_3.toNat a0_4.toNat a1 a2)).2.1, a0_2 + 1, (halfN a0_3.toNat a2 : Int), ((allN l0_0 a0_3.toNat a0_4.toNat a1 a2).size : Int), 0) else some (l0_0, [], a0_2, a0_3, a0_4, 2))
  else none
def openB (su : List ByteArray) (so : List S24) : Bool :=
  so.isEmpty && rightB su [] && decide (4 ≤ su.length) && smallB (blkN su 0) && smallB (blkN su 1) && (!(hdI (wdN su) (blkN su 0)).is || decide (nB (blkN su 0) 0 8 % 2 = 0)) && (!(hdI (wdN su) (blkN su 1)).is || decide (nB (blkN su 1) 0 8 % 2 = 1))
def bestN (su : List ByteArray) : HdI := bestI (fun i => hdI (wdN su) (blkN su i)) 2
def vault_Open.f (l0_0 : List ByteArray) (l0_1 : List (S24)) : Option (List ByteArray × (List (S24)) × Int × Int × Int × ByteArray × Int) :=
  if openB l0_0 l0_1 = true then (if (bestN l0_0).q < 0 then some (l0_0, [], 0, 0, 0, ⟨#[]⟩, 25) else some (l0_0, [], (bestN l0_0).q, (bestN l0_0).h, (bestN l0_0).l, textN l0_0 (bestN l0_0).h.toNat (bestN l0_0).l.toNat, 0)) else none
end Go.Proofs.Ytcfinlmocgbnbaa.Pr
end
section
namespace Go.Proofs.Ytcfinlmocgbnbaa.Pr
open Go.RowKit Go.Proofs.YtcfinlmocgbnbaaW.PrintWords Go.Proofs.YtcfinlmocgbnbaaW.PrintLast Go.Proofs.YtcfinlmocgbnbaaW.PrintMore
attribute [local go_sem] max2_int min2_int max_two min_two max_three min_three max_four min_four
set_option linter.unusedVariables false
set_option linter.unusedSimpArgs false
theorem eqA24 (d : Nat) (w : World) (x0 y0 : Bool) (x1 y1 : Int) (x2 y2 : ByteArray) :
  (Op.equalIn (d + 2) 24 (.agg #[.bool x0, .int .i64 x1, .string x2]) (.agg #[.bool y0, .int .i64 y1, .string y2])).run Try.prog w = .ok (x0 == y0 && (x1 == y1 && (x2.toList == y2.toList))) w := by
 refine eqA_of Try.underlying24 (by kernel_rfl) ?_
 refine eqf_cons (by rfl) (by go_simp; rfl) (by go_simp; rfl) (by go_simp) ?_
 refine eqf_cons (by rfl) (by go_simp; rfl) (by go_simp; rfl) (by go_simp) ?_
 exact eqf_last (by rfl) (by go_simp; rfl) (by go_simp; rfl) (by go_simp)
end Go.Proofs.Ytcfinlmocgbnbaa.Pr
end
section
set_option linter.unusedVariables false
set_option linter.unusedSimpArgs false
namespace Go.Proofs.Ytcfinlmocgbnbaa.Pr
open Go.RowKit Go.Proofs.YtcfinlmocgbnbaaW.PrintWords Go.Proofs.YtcfinlmocgbnbaaW.PrintLast Go.Proofs.YtcfinlmocgbnbaaW.PrintMore
def I64 (a : Int) : Prop := -9223372036854775808 ≤ a ∧ a ≤ 9223372036854775807
theorem i64_of {a : Int} (h : (Lit.int .i64 a).wf = true) : I64 a := by
  have e0 : IntKind.i64.min = -9223372036854775808 := rfl
  have e1 : IntKind.i64.max = 9223372036854775807 := rfl
  simp only [Lit.wf, Bool.and_eq_true, decide_eq_true_eq] at h
  unfold I64
  omega
theorem strOf_size (xs : List Int) : (strOfNums xs).size = xs.length := by
  simp [strOfNums, ByteArray.size]
structure Good (n : Nat) (m : S24) : Prop where
  syn : m.f0 = true → m.f1 = 0 ∧ m.f2 = ⟨#[]⟩
  put : m.f0 = false → 0 ≤ m.f1 ∧ m.f1 < n ∧ m.f2.size = 64
theorem good_odd {n : Nat} {m : S24} (h : Good n m) : oddB n m = false := by
  obtain ⟨f0, f1, f2⟩ := m
  unfold oddB
  cases f0
  · have := h.put rfl
    simp only [Bool.false_eq_true, if_false, Bool.or_eq_false_iff, decide_eq_false_iff_not]
    dsimp only at this
    omega
  · obtain ⟨rfl, rfl⟩ := h.syn rfl
    rfl
structure Dsk (n : Nat) (su : List ByteArray) (so : List S24) : Prop extends DoInv n su so where
  nos : ∀ m ∈ so, m.f0 = false
theorem Dsk.right {n : Nat} {su : List ByteArray} {so : List S24} (h : Dsk n su so) (h1 : 1 ≤ n) (h2 : n ≤ 400) : rightB su so = true := right_iff.2 ⟨by rw [h.len]; exact h1, by rw [h.len]; exact h2, h.few, h.fits, h.nos⟩
theorem dsk_new (n : Nat) : Dsk n (List.replicate n blank) [] := ⟨⟨by simp, by simp, ⟨(fun m hm => by cases hm), (fun m hm => by cases hm), (fun s hs => by rw [(List.mem_replicate.1 hs).2]; rfl)⟩⟩, fun m hm => by cases hm⟩
theorem dsk_fall {n : Nat} {su : List ByteArray} {so : List S24} (h : Dsk n su so) {cut : Nat → Int} (hc : ∀ j, 0 ≤ cut j ∧ cut j ≤ 64) : Dsk n (fall su so cut 0) [] :=
  ⟨⟨by rw [fall_len]; exact h.len, by simp, ⟨(fun m hm => by cases hm), (fun m hm => by cases hm), fall_sur so su cut 0 h.fits hc⟩⟩, fun m hm => by cases hm⟩
theorem dsk_app {n : Nat} {su : List ByteArray} {so : List S24} {m : S24} (h : Dsk n su so) (hm : Good n m) (h0 : m.f0 = false) (h1 : so.length < 3000) : Dsk n su (so ++ [m]) :=
  ⟨inv_app h.toDoInv (good_odd hm) h0 (by omega), fun x hx => by
    rcases List.mem_append.1 hx with hx | hx
    · exact h.nos x hx
    · obtain rfl : x = m := by simpa using hx
      exact h0⟩
def runL : List ByteArray → List S24 → List S24 → List ByteArray × List S24
  | su, so, [] => (su, so)
  | su, so, m :: l => if m.f0 = true then runL (fall su so (fun _ => 64) 0) [] l else runL su (so ++ [m]) l
theorem doL_run {n : Nat} {su0 : List ByteArray} {so0 : List S24} : ∀ (l : List S24) (su : List ByteArray) (so : List S24), Dsk n su so → (∀ m ∈ l, Good n m) → so.length + l.length ≤ 3000 →
    doL su0 so0 su so l = ((runL su so l).1, (runL su so l).2, 0) ∧ Dsk n (runL su so l).1 (runL su so l).2 ∧ (runL su so l).2.length ≤ so.length + l.length
  | [], su, so, h, hg, hr => ⟨rfl, h, by simp [runL]⟩
  | m :: l, su, so, h, hg, hr => by
    simp only [List.length_cons] at hr
    have hm := hg m (by simp)
    have hl := fun x hx => hg x (List.mem_cons_of_mem m hx)
    cases hs : m.f0
    · have hd := dsk_app h hm hs (by omega)
      obtain ⟨e, d, z⟩ := doL_run l su (so ++ [m]) hd hl (by simp; omega)
      simp only [doL, runL, hs, Bool.false_eq_true, if_false]
      rw [if_neg (by omega)]
      exact ⟨e, d, by simp at z ⊢; omega⟩
    · have hd := dsk_fall h (cut := fun _ => 64) (fun _ => by omega)
      obtain ⟨e, d, z⟩ := doL_run l _ [] hd hl (by simp; omega)
      simp only [doL, runL, hs, if_true]
      exact ⟨e, d, by simp at z ⊢; omega⟩
theorem do_ok {n : Nat} {su : List ByteArray} {so : List S24} {l : List S24} (h : Dsk n su so) (h1 : 1 ≤ n) (h2 : n ≤ 400) (hg : ∀ m ∈ l, Good n m) (hr : so.length + l.length ≤ 3000) :
    disk_Do.f su so l = some ((runL su so l).1, (runL su so l).2, 0) ∧ Dsk n (runL su so l).1 (runL su so l).2 ∧ (runL su so l).2.length ≤ so.length + l.length := by
  obtain ⟨e, d, z⟩ := doL_run (su0 := su) (so0 := so) l su so h hg hr
  have hany : l.any (oddB su.length) = false := by
    rw [List.any_eq_false]
    intro m hm
    rw [h.len]
    simpa using good_odd (hg m hm)
  have hlen := h.len
  have hfew := h.few
  refine ⟨?_, d, z⟩
  unfold disk_Do.f doB
  rw [if_pos (by omega), if_pos ⟨h.right h1 h2, hany⟩, e]
theorem sync_good (n : Nat) : Good n ⟨true, 0, ⟨#[]⟩⟩ := ⟨fun _ => ⟨rfl, rfl⟩, fun h => by cases h⟩
end Go.Proofs.Ytcfinlmocgbnbaa.Pr
end
section
namespace Go.Proofs.Ytcfinlmocgbnbaa.Pr
open Go.RowKit Go.Shelf Go.Proofs.Ytcfinlmocgbnbaa.XB Go.Proofs.YtcfinlmocgbnbaaW.PrintWords Go.Proofs.YtcfinlmocgbnbaaW.PrintMore
set_option linter.unusedVariables false
set_option linter.unusedSimpArgs false
theorem beI_len (n : Nat) : ∀ k, (beI n k).length = k
  | 0 => rfl
  | k + 1 => by simp only [beI, List.length_cons, beI_len n k]
theorem beI_range (n : Nat) : ∀ k, ∀ x ∈ beI n k, 0 ≤ x ∧ x ≤ 255
  | 0 => by intro x hx; cases hx
  | k + 1 => by
    intro x hx
    rcases List.mem_cons.1 hx with rfl | hx
    · omega
    · exact beI_range n k x hx
theorem shr_byte (n k : Nat) (hk : k ≤ 7) : shr .i64 (n : Int) (wrap64 (8 * (k : Int))) % 256 = ((n / 256 ^ k % 256 : Nat) : Int) := by
  have e : wrap64 (8 * (k : Int)) = ((8 * k : Nat) : Int) := by unfold wrap64; omega
  rw [e]
  unfold shr
  have hb : IntKind.i64.bits = 64 := rfl
  rw [Int.toNat_natCast, hb, Nat.min_eq_left (by omega), show (256 : Nat) ^ k = 2 ^ (8 * k) by rw [Nat.pow_mul]]
  rw [Int.natCast_emod, Int.natCast_ediv, Int.natCast_pow]
  rfl
theorem put_l0 (n : Nat) : ∀ (k K : Nat) (xs : List Int), k ≤ 8 → k < K → xs.length + k ≤ 1000 → vault_put_int.l0 K xs (n : Int) ((k : Int) - 1) = some (xs ++ beI n k)
  | 0, K, xs, hk, hK, hx => by
    obtain ⟨K, rfl⟩ : ∃ m, K = m + 1 := ⟨K - 1, by omega⟩
    simp only [vault_put_int.l0, beI]
    rw [if_neg (by omega)]
    simp
  | k + 1, K, xs, hk, hK, hx => by
    obtain ⟨K, rfl⟩ : ∃ m, K = m + 1 := ⟨K - 1, by omega⟩
    simp only [vault_put_int.l0, beI]
    rw [show ((k + 1 : Nat) : Int) - 1 = (k : Int) by omega, if_pos (by omega), if_pos (by unfold wrap64; omega), if_pos (by omega), shr_byte n k (by omega), show wrap64 ((k : Int) - 1) = (k : Int) - 1 by unfold wrap64; omega, put_l0 n k K _ (by omega) (by omega) (by simp; omega)]
    simp
theorem put_eq (n k K : Nat) (xs : List Int) (hk : k ≤ 8) (hK : k < K) (hx : xs.length + k ≤ 1000) : vault_put_int.f K xs (n : Int) (k : Int) = some (xs ++ beI n k) := by
  unfold vault_put_int.f
  rw [show wrap64 ((k : Int) - 1) = (k : Int) - 1 by unfold wrap64; omega]
  exact put_l0 n k K xs hk hK hx
theorem pI_len (q h l : Nat) : (pI q h l).length = 16 := by simp [pI, beI_len]
theorem pI_range (q h l : Nat) : ∀ x ∈ pI q h l, 0 ≤ x ∧ x ≤ 255 := by
  intro x hx
  simp only [pI, List.mem_append] at hx
  rcases hx with (hx | hx) | hx <;> exact beI_range _ _ x hx
set_option maxRecDepth 10000 in
theorem xor_255 : ∀ x : Fin 256, Go.bits .xor .u8 ((x.val : Nat) : Int) 255 = 255 - (x.val : Int) := by decide +kernel
theorem xor_byte {x : Int} (h : 0 ≤ x ∧ x ≤ 255) : Go.bits .xor .u8 x 255 = 255 - x := by
  have := xor_255 ⟨x.toNat, by omega⟩
  simp only [Int.toNat_of_nonneg h.1] at this
  exact this
theorem rd_get {xs : List Int} {i : Nat} (h : i < xs.length) : rd xs (i : Int) = xs[i] := by unfold rd; simp [h]
theorem head_l0 (p : List Int) (hp : p.length = 16) (hr : ∀ x ∈ p, 0 ≤ x ∧ x ≤ 255) : ∀ (d i K : Nat), i + d = 16 → d < K → vault_book_head.l0 K (p ++ (p.take i).map (fun x => 255 - x)) p (16 : Int) (i : Int) = some (strOfNums (p ++ p.map (fun x => 255 - x) ++ List.replicate 32 0))
  | 0, i, K, h, hK => by
    obtain ⟨K, rfl⟩ : ∃ m, K = m + 1 := ⟨K - 1, by omega⟩
    obtain rfl : i = 16 := by omega
    simp only [vault_book_head.l0]
    have hl : (p ++ (p.take 16).map (fun x => 255 - x)).length = 32 := by simp [hp]
    rw [if_neg (by omega), hl, show wrap64 (64 - ((32 : Nat) : Int)) = 32 by unfold wrap64; omega, if_pos (by omega), if_pos (by omega), List.take_of_length_le (by omega)]
    rfl
  | d + 1, i, K, h, hK => by
    obtain ⟨K, rfl⟩ : ∃ m, K = m + 1 := ⟨K - 1, by omega⟩
    have hi : i < p.length := by omega
    simp only [vault_book_head.l0]
    rw [if_pos (by omega), if_pos (by omega), if_pos (by omega), if_pos (by simp; omega), rd_get hi, xor_byte (hr _ (List.getElem_mem hi)), show wrap64 ((i : Int) + 1) = ((i + 1 : Nat) : Int) by unfold wrap64; omega]
    have e : p ++ (p.take i).map (fun x => 255 - x) ++ [255 - p[i]] = p ++ (p.take (i + 1)).map (fun x => 255 - x) := by
      rw [List.take_succ_eq_append_getElem hi, List.map_append, List.append_assoc]
      rfl
    rw [e]
    exact head_l0 p hp hr d (i + 1) K (by omega) (by omega)
theorem head_eq (su : List ByteArray) (so : List S24) (q h l : Nat) : vault_book_head.f 30 su so (q : Int) (h : Int) (l : Int) = some (headP q h l) := by
  unfold vault_book_head.f
  have e1 := put_eq q 8 30 [] (by omega) (by omega) (by simp)
  have e2 := put_eq h 4 30 (beI q 8) (by omega) (by omega) (by rw [beI_len]; omega)
  have e3 := put_eq l 4 30 (beI q 8 ++ beI h 4) (by omega) (by omega) (by simp [beI_len])
  simp only [Int.cast_ofNat_Int, List.nil_append] at e1 e2 e3
  rw [e1, Option.bind_some, e2, Option.bind_some, e3, Option.bind_some]
  show (if 16 ≤ ((pI q h l).length : Int) then _ else _) = _
  have hl := pI_len q h l
  rw [if_pos (by omega), Option.bind_some]
  have e4 : (beI q 8 ++ beI h 4 ++ beI l 4).take 16 = pI q h l := List.take_of_length_le (by rw [show beI q 8 ++ beI h 4 ++ beI l 4 = pI q h l from rfl]; omega)
  rw [e4, hl]
  have := head_l0 (pI q h l) hl (pI_range q h l) 16 0 30 (by omega) (by omega)
  rw [List.take_zero, List.map_nil, List.append_nil] at this
  exact this
theorem wide_eq (su : List ByteArray) (so : List S24) (a b c : Int) (h1 : 2 ≤ su.length) (h2 : su.length ≤ 1000) : vault_book_wide.f su so a b c = some (wdN su : Int) := by
  unfold vault_book_wide.f wdN
  have e : wrap64 ((su.length : Int) - 2) = ((su.length - 2 : Nat) : Int) := by unfold wrap64; omega
  rw [e, Int.tdiv_eq_ediv_of_nonneg (by omega)]
  congr 1
  unfold wrap64
  omega
theorem room_eq (su : List ByteArray) (so : List S24) (a b c : Int) (h1 : 2 ≤ su.length) (h2 : su.length ≤ 1000) : vault_book_room.f su so a b c = some (64 * (wdN su : Int)) := by
  unfold vault_book_room.f
  rw [wide_eq su so a b c h1 h2, Option.bind_some]
  have : wdN su ≤ 500 := by unfold wdN; omega
  congr 1
  unfold wrap64
  omega
theorem take_eq {g : ByteArray} {a b : Nat} (hs : g.size ≤ 1000) (h : nB g a b < 9223372036854775808) : vault_take_int.f (g.extract a b) = some (nB g a b : Int) := by
  unfold vault_take_int.f
  rw [if_pos ⟨h, by rw [ByteArray.size_extract]; omega⟩]
  rfl
end Go.Proofs.Ytcfinlmocgbnbaa.Pr
end
section
namespace Go.Proofs.Ytcfinlmocgbnbaa.Pr
open Go.RowKit Go.Shelf Go.Proofs.Ytcfinlmocgbnbaa.XB Go.Proofs.YtcfinlmocgbnbaaW.PrintWords Go.Proofs.YtcfinlmocgbnbaaW.PrintMore
set_option linter.unusedVariables false
set_option linter.unusedSimpArgs false
theorem bt_str {xs : List Int} (hr : ∀ x ∈ xs, 0 ≤ x ∧ x ≤ 255) {i : Nat} (hi : i < xs.length) : bt (strOfNums xs) (i : Int) = xs[i] := by
  unfold bt
  have hs : (strOfNums xs).size = xs.length := strOf_size xs
  rw [dif_pos (by simpa [hs] using hi)]
  have := hr _ (List.getElem_mem hi)
  have e : (strOfNums xs)[(i : Int).toNat]'(by simpa [hs] using hi) = UInt8.ofNat (xs[i]).toNat := by
    simp [strOfNums, ByteArray.getElem_eq_getElem_data]
  rw [e, UInt8.toNat_ofNat']
  omega
theorem headI_range (q h l : Nat) : ∀ x ∈ pI q h l ++ (pI q h l).map (fun x => 255 - x) ++ List.replicate 32 0, 0 ≤ x ∧ x ≤ 255 := by
  intro x hx
  simp only [List.mem_append, List.mem_map, List.mem_replicate] at hx
  rcases hx with (hx | ⟨y, hy, rfl⟩) | ⟨_, rfl⟩
  · exact pI_range q h l x hx
  · have := pI_range q h l y hy; omega
  · omega
theorem headI_len (q h l : Nat) : (pI q h l ++ (pI q h l).map (fun x => 255 - x) ++ List.replicate 32 0).length = 64 := by simp [pI_len]
theorem headP_size (q h l : Nat) : (headP q h l).size = 64 := by unfold headP; rw [strOf_size, headI_len]
theorem bt_head1 (q h l : Nat) {i : Nat} (hi : i < 16) : bt (headP q h l) (i : Int) = (pI q h l)[i]'(by rw [pI_len]; exact hi) := by
  unfold headP
  rw [bt_str (headI_range q h l) (by rw [headI_len]; omega), List.getElem_append_left (by simp [pI_len]; omega), List.getElem_append_left (by simp [pI_len]; omega)]
theorem bt_head2 (q h l : Nat) {i : Nat} (hi : i < 16) : bt (headP q h l) ((16 + i : Nat) : Int) = 255 - bt (headP q h l) (i : Int) := by
  rw [bt_head1 q h l hi]
  unfold headP
  rw [bt_str (headI_range q h l) (by rw [headI_len]; omega), List.getElem_append_left (by simp [pI_len]; omega), List.getElem_append_right (by simp [pI_len]), List.getElem_map]
  simp [pI_len]
theorem bt_head3 (q h l : Nat) {i : Nat} (h1 : 32 ≤ i) (h2 : i < 64) : bt (headP q h l) (i : Int) = 0 := by
  unfold headP
  rw [bt_str (headI_range q h l) (by rw [headI_len]; omega), List.getElem_append_right (by simp [pI_len]; omega), List.getElem_replicate]
theorem bt_ext {a b : ByteArray} {n : Nat} (ha : a.size = n) (hb : b.size = n) (h : ∀ i : Nat, i < n → bt a i = bt b i) : a = b := by
  apply ByteArray.ext
  apply Array.ext
  · show a.size = b.size
    rw [ha, hb]
  · intro i h1 h2
    have h3 : i < a.size := h1
    have h4 : i < b.size := h2
    have := h i (by omega)
    unfold bt at this
    rw [dif_pos (by simpa using h3), dif_pos (by simpa using h4)] at this
    simp only [Int.toNat_natCast] at this
    have h5 : (a[i]'h3).toNat = (b[i]'h4).toNat := by omega
    exact UInt8.toNat_inj.1 h5
def Form (g H : ByteArray) : Prop := ∀ i : Nat, i < 64 → bt g i = 0 ∨ bt g i = bt H i
theorem head_unique {g : ByteArray} {a b c q h l : Nat} (he : g = headP a b c) (F : Form g (headP q h l)) : g = headP q h l := by
  have hlow : ∀ i : Nat, i < 16 → bt g i = bt (headP q h l) i := by
    intro i hi
    have f1 := F i (by omega)
    have f2 := F (16 + i) (by omega)
    rw [bt_head2 q h l hi] at f2
    have e2 : bt g ((16 + i : Nat) : Int) = 255 - bt g (i : Int) := by rw [he]; exact bt_head2 a b c hi
    rw [e2] at f2
    have r1 := bt_range g (i : Int)
    have r2 := bt_range (headP q h l) (i : Int)
    omega
  refine bt_ext (n := 64) (by rw [he]; exact headP_size a b c) (headP_size q h l) (fun i hi => ?_)
  by_cases h1 : i < 16
  · exact hlow i h1
  · by_cases h2 : i < 32
    · obtain ⟨j, rfl⟩ : ∃ j, i = 16 + j := ⟨i - 16, by omega⟩
      rw [bt_head2 q h l (by omega), ← hlow j (by omega)]
      rw [he]
      exact bt_head2 a b c (by omega)
    · rw [bt_head3 q h l (by omega) hi, he]
      exact bt_head3 a b c (by omega) hi
theorem num_mono : ∀ (l l' : List UInt8) (n n' : Nat), l.length = l'.length → (∀ (i : Nat) (h1 : i < l.length) (h2 : i < l'.length), l[i].toNat ≤ l'[i].toNat) → n ≤ n' → num l n ≤ num l' n'
  | [], [], n, n', _, _, h => h
  | [], _ :: _, _, _, h, _, _ => by simp at h
  | _ :: _, [], _, _, h, _, _ => by simp at h
  | b :: l, b' :: l', n, n', hl, hb, h => by
    simp only [num]
    refine num_mono l l' _ _ (by simpa using hl) (fun i h1 h2 => by have := hb (i + 1) (by simp; omega) (by simp; omega); simpa using this) ?_
    have := hb 0 (by simp) (by simp)
    simp only [List.getElem_cons_zero] at this
    omega
theorem nB_mono {g H : ByteArray} (hg : g.size = 64) (hH : H.size = 64) (h : ∀ i : Nat, i < 64 → bt g i ≤ bt H i) (a b : Nat) (hb : b ≤ 64) : nB g a b ≤ nB H a b := by
  unfold nB
  have e : ∀ x : ByteArray, x.size = 64 → (x.extract a b).data.toList.length = b - a := fun x hx => by
    rw [Array.length_toList]; show (x.extract a b).size = _; rw [ByteArray.size_extract, hx]; omega
  refine num_mono _ _ _ _ (by rw [e g hg, e H hH]) (fun i h1 h2 => ?_) (Nat.le_refl _)
  rw [e g hg] at h1
  have h3 := h (a + i) (by omega)
  unfold bt at h3
  rw [dif_pos (by simp; omega), dif_pos (by simp; omega)] at h3
  simp only [Int.toNat_natCast] at h3
  have p : ∀ (x : ByteArray) (hx : x.size = 64) (hh : i < (x.extract a b).data.toList.length), (x.extract a b).data.toList[i] = x[a + i]'(by omega) := fun x hx hh => by
    simp [ByteArray.getElem_eq_getElem_data]
  rw [p g hg, p H hH]
  omega
theorem num_be (m : Nat) : ∀ (k n : Nat), num ((beI m k).map fun x => UInt8.ofNat x.toNat) n = n * 256 ^ k + m % 256 ^ k
  | 0, n => by simp [beI, num, Nat.mod_one]
  | k + 1, n => by
    simp only [beI, List.map_cons, num]
    rw [num_be m k, Int.toNat_natCast, UInt8.toNat_ofNat', Nat.mod_mod, Nat.pow_succ, Nat.mod_mul]
    generalize m / 256 ^ k % 256 = d
    generalize 256 ^ k = e
    generalize m % e = r
    grind
theorem nB_head (q h l : Nat) : nB (headP q h l) 0 8 = q % 256 ^ 8 ∧ nB (headP q h l) 8 12 = h % 256 ^ 4 ∧ nB (headP q h l) 12 16 = l % 256 ^ 4 := by
  have key : ∀ (a b : Nat) (xs ys zs : List Int), xs.length = a → xs.length + ys.length = b → pI q h l ++ (pI q h l).map (fun x => 255 - x) ++ List.replicate 32 0 = xs ++ ys ++ zs → ((headP q h l).extract a b).data.toList = ys.map fun x => UInt8.ofNat x.toNat := by
    intro a b xs ys zs hx hy he
    unfold headP
    rw [he]
    subst hx
    subst hy
    simp [strOfNums, ByteArray.data_extract]
  have l8 := beI_len q 8
  have l4 := beI_len h 4
  have l4' := beI_len l 4
  refine ⟨?_, ?_, ?_⟩ <;> unfold nB
  · rw [key 0 8 [] (beI q 8) (beI h 4 ++ beI l 4 ++ (pI q h l).map (fun x => 255 - x) ++ List.replicate 32 0) rfl (by simp [l8]) (by simp [pI]), num_be]
    simp
  · rw [key 8 12 (beI q 8) (beI h 4) (beI l 4 ++ (pI q h l).map (fun x => 255 - x) ++ List.replicate 32 0) l8 (by simp [l8, l4]) (by simp [pI]), num_be]
    simp
  · rw [key 12 16 (beI q 8 ++ beI h 4) (beI l 4) ((pI q h l).map (fun x => 255 - x) ++ List.replicate 32 0) (by simp [l8, l4]) (by simp [l8, l4, l4']) (by simp [pI]), num_be]
    simp
structure HOk (wd q h l : Nat) : Prop where
  q : q ≤ 1099511627776
  h : h ≤ 1
  l : l ≤ 64 * wd
theorem form_le {g : ByteArray} {q h l : Nat} (F : Form g (headP q h l)) : ∀ i : Nat, i < 64 → bt g i ≤ bt (headP q h l) i := fun i hi => by
  have := F i hi
  have := bt_range (headP q h l) i
  omega
theorem form_small {g : ByteArray} {wd q h l : Nat} (hg : g.size = 64) (F : Form g (headP q h l)) (k : HOk wd q h l) : smallB g = true := by
  unfold smallB
  have h1 := nB_mono hg (headP_size q h l) (form_le F) 0 8 (by omega)
  rw [(nB_head q h l).1] at h1
  have h2 := k.q
  have h3 : q % 256 ^ 8 ≤ q := Nat.mod_le _ _
  exact decide_eq_true (by omega)
theorem head_reads {wd q h l : Nat} (hw : wd ≤ 1000) (k : HOk wd q h l) : hdI wd (headP q h l) = ⟨true, (q : Int), (h : Int), (l : Int)⟩ := by
  obtain ⟨e1, e2, e3⟩ := nB_head q h l
  have h1 := k.q
  have h2 := k.h
  have h3 := k.l
  rw [Nat.mod_eq_of_lt (by omega)] at e1 e2 e3
  unfold hdI
  rw [e1, e2, e3]
  simp [h1, h3]
  omega
theorem form_reads {g : ByteArray} {wd q h l : Nat} (hw : wd ≤ 1000) (F : Form g (headP q h l)) (k : HOk wd q h l) (hi : (hdI wd g).is = true) : g = headP q h l := by
  unfold hdI at hi
  simp only [Bool.and_eq_true, decide_eq_true_eq] at hi
  exact head_unique hi.2.symm F
end Go.Proofs.Ytcfinlmocgbnbaa.Pr
end
section
namespace Go.Proofs.Ytcfinlmocgbnbaa.Pr
open Go.RowKit Go.Shelf Go.Proofs.Ytcfinlmocgbnbaa.XB Go.Proofs.YtcfinlmocgbnbaaW.PrintWords
set_option linter.unusedVariables false
set_option linter.unusedSimpArgs false
structure GS (su : List ByteArray) (q h l : Nat) : Prop where
  r : rightB su [] = true
  n1 : 4 ≤ su.length
  n2 : su.length ≤ 400
  sur : ∀ s ∈ su, s.size = 64
  k : HOk (wdN su) q h l
  this : blkN su (q % 2) = headP q h l
  small : smallB (blkN su (1 - q % 2)) = true
  less : (hdI (wdN su) (blkN su (1 - q % 2))).is = true → (hdI (wdN su) (blkN su (1 - q % 2))).q < q
theorem good_nat {su : List ByteArray} {so : List S24} {a b c : Int} (h : goodB su so a b c = true) : ∃ q h l : Nat, a = q ∧ b = h ∧ c = l := by
  simp only [goodB, Bool.and_eq_true, decide_eq_true_eq] at h
  exact ⟨a.toNat, b.toNat, c.toNat, by omega, by omega, by omega⟩
theorem good_iff {su : List ByteArray} {so : List S24} {q h l : Nat} : goodB su so (q : Int) (h : Int) (l : Int) = true ↔ so = [] ∧ GS su q h l := by
  simp only [goodB, Bool.and_eq_true, decide_eq_true_eq, Int.toNat_natCast, List.isEmpty_iff, Bool.or_eq_true, Bool.not_eq_true']
  constructor
  · rintro ⟨⟨⟨⟨⟨⟨e0, hr⟩, h4⟩, hn⟩, ht⟩, hs⟩, hl⟩
    have R := right_iff.1 hr
    refine ⟨e0, hr, h4, R.most, R.fits.sur, ⟨by omega, by omega, by omega⟩, ht, hs, fun hi => ?_⟩
    rcases hl with hl | hl
    · rw [hl] at hi; cases hi
    · exact hl
  · rintro ⟨e0, G⟩
    have k1 := G.k.q
    have k2 := G.k.h
    have k3 := G.k.l
    refine ⟨⟨⟨⟨⟨⟨e0, G.r⟩, G.n1⟩, by omega⟩, G.this⟩, G.small⟩, ?_⟩
    cases hi : (hdI (wdN su) (blkN su (1 - q % 2))).is
    · exact .inl rfl
    · exact .inr (G.less hi)
theorem num_lt : ∀ (l : List UInt8) (n : Nat), num l n < (n + 1) * 256 ^ l.length
  | [], n => by simp [num]
  | b :: l, n => by
    simp only [num, List.length_cons]
    have h1 := num_lt l (256 * n + b.toNat)
    have h2 : b.toNat < 256 := b.toNat_lt
    have h3 : (256 * n + b.toNat + 1) * 256 ^ l.length ≤ ((n + 1) * 256) * 256 ^ l.length := Nat.mul_le_mul_right _ (by omega)
    have h4 : ((n + 1) * 256) * 256 ^ l.length = (n + 1) * 256 ^ (l.length + 1) := by rw [Nat.pow_succ, Nat.mul_assoc, Nat.mul_comm 256]
    omega
theorem nB_lt (g : ByteArray) (a : Nat) : nB g a (a + 4) < 4294967296 := by
  unfold nB
  have h := num_lt (g.extract a (a + 4)).data.toList 0
  have hl : (g.extract a (a + 4)).data.toList.length ≤ 4 := by rw [Array.length_toList]; show (g.extract a (a + 4)).size ≤ 4; rw [ByteArray.size_extract]; omega
  have h2 : 256 ^ (g.extract a (a + 4)).data.toList.length ≤ 256 ^ 4 := Nat.pow_le_pow_right (by omega) hl
  omega
theorem toList_eq_iff (a b : ByteArray) : decide (a.toList = b.toList) = decide (a = b) := by
  have := str_eq a b
  rw [← this]
  by_cases h : a.toList = b.toList <;> simp [h]
theorem reads_is (wd : Nat) (g : ByteArray) : (decide ((nB g 0 8 : Int) ≤ 1099511627776) && decide ((nB g 8 12 : Int) < 2) && decide ((nB g 12 16 : Int) ≤ 64 * (wd : Int)) && decide ((headP (nB g 0 8) (nB g 8 12) (nB g 12 16)).toList = g.toList)) = (hdI wd g).is := by
  unfold hdI
  rw [toList_eq_iff, show decide ((nB g 0 8 : Int) ≤ 1099511627776) = decide (nB g 0 8 ≤ 1099511627776) from decide_eq_decide.2 (by omega), show decide ((nB g 8 12 : Int) < 2) = decide (nB g 8 12 < 2) from decide_eq_decide.2 (by omega), show decide ((nB g 12 16 : Int) ≤ 64 * (wd : Int)) = decide (nB g 12 16 ≤ 64 * wd) from decide_eq_decide.2 (by omega)]
theorem blk_size {su : List ByteArray} (h : ∀ s ∈ su, s.size = 64) {i : Nat} (hi : i < su.length) : (blkN su i).size = 64 := rdS_size h (by omega) (by omega)
theorem may_ok {su : List ByteArray} (hr : rightB su [] = true) (h4 : 4 ≤ su.length) : vault_may.f su [] = some true := by
  unfold vault_may.f disk_Right.f
  rw [hr, Option.bind_some, if_pos rfl, show decide ((su.length : Int) ≥ 4) = true from decide_eq_true (by omega)]
section
variable {su : List ByteArray} {q h l : Nat} {A0 A1 : Option Addr} {c0 c1 : Nat} (w : World)
theorem right_calls (G : GS su q h l) (hsu : Kd.C Kd.string w A0 su.length su) (hc0 : su.length ≤ c0) (hso : Kd.C k24 w A1 0 ([] : List S24)) :
    Calls Try.prog 36 #[.agg #[.slice A0 su.length c0, .slice A1 0 c1, .int .i64 (q : Int), .int .i64 (h : Int), .int .i64 (l : Int)]] w fun e w' => e = .returned (.bool true) ∧ Below w.heap.size w w' := by
  have n1 := G.n1
  have n2 := G.n2
  have hsz0 := blk_size G.sur (i := q % 2) (by omega)
  have hsz1 := blk_size G.sur (i := 1 - q % 2) (by omega)
  have hk1 := G.k.q
  have hk2 := G.k.h
  have hk3 := G.k.l
  have hw : wdN su ≤ 200 := by unfold wdN; omega
  obtain ⟨e1, e2, e3⟩ := nB_head q h l
  rw [Nat.mod_eq_of_lt (by omega), ← G.this] at e1 e2 e3
  have hsm := G.small
  unfold smallB at hsm
  simp only [decide_eq_true_eq] at hsm
  have hrd := head_reads (wd := wdN su) (by omega) G.k
  have b2 : nB (blkN su (1 - q % 2)) 8 12 < 4294967296 := nB_lt _ 8
  have b3 : nB (blkN su (1 - q % 2)) 12 16 < 4294967296 := nB_lt _ 12
  refine vright_true 30 (s0 := blkN su (q % 2)) (s1 := blkN su (1 - q % 2)) (at_ := ((q % 2 : Nat) : Int)) (m1 := (nB (blkN su (1 - q % 2)) 0 8 : Int)) (m2 := (nB (blkN su (1 - q % 2)) 8 12 : Int)) (m3 := (nB (blkN su (1 - q % 2)) 12 16 : Int))
    w hsu hc0 hso (may_ok G.r G.n1) (by omega) (by omega) (by rw [Int.tmod_eq_emod_of_nonneg (by omega)]; omega) (by omega) (by omega) rfl (by unfold blkN; congr 1; omega) (by omega) (by omega)
    (by rw [take_eq (by omega) (by omega), e1]) (by rw [take_eq (by omega) (by omega), e2]) (by rw [take_eq (by omega) (by omega), e3]) (room_eq su [] _ _ _ (by omega) (by omega)) (head_eq su [] q h l)
    (take_eq (by omega) hsm) (take_eq (by omega) (by omega)) (take_eq (by omega) (by omega)) (room_eq su [] _ _ _ (by omega) (by omega)) (head_eq su [] _ _ _) (by omega) ?_ (hdI (wdN su) (blkN su (1 - q % 2))).is (reads_is _ _) (fun hi => G.less hi)
  have := reads_is (wdN su) (blkN su (q % 2))
  rw [e1, e2, e3, G.this, hrd] at this
  rw [G.this]
  exact this
end
theorem vault_Right.calls (A0_0 : Option Addr) (c0_0 : Nat) (l0_0 : List ByteArray) (A0_1 : Option Addr) (c0_1 : Nat) (l0_1 : List (S24)) (a0_2 : Int) (a0_3 : Int) (a0_4 : Int) (r : Bool) (w : World) (hr0_0 : Kd.C Kd.string w A0_0 l0_0.length l0_0) (hc0_0 : l0_0.length ≤ c0_0) (hr0_1 : Kd.C k24 w A0_1 l0_1.length l0_1) (hc0_1 : l0_1.length ≤ c0_1) (h : vault_Right.f l0_0 l0_1 a0_2 a0_3 a0_4 = some r) :
    Calls Try.prog 36 #[.agg #[.slice A0_0 l0_0.length c0_0, .slice A0_1 l0_1.length c0_1, .int .i64 a0_2, .int .i64 a0_3, .int .i64 a0_4]] w fun e w' => e = .returned (.bool r) ∧ Below w.heap.size w w' := by
  unfold vault_Right.f at h
  by_cases hg : goodB l0_0 l0_1 a0_2 a0_3 a0_4 = true
  case neg => rw [if_neg hg] at h; cases h
  rw [if_pos hg] at h
  obtain rfl := Option.some.inj h
  obtain ⟨q, hh, l, rfl, rfl, rfl⟩ := good_nat hg
  obtain ⟨rfl, G⟩ := good_iff.1 hg
  exact right_calls w G hr0_0 hc0_0 hr0_1
theorem vault_Room.calls (A0_0 : Option Addr) (c0_0 : Nat) (l0_0 : List ByteArray) (A0_1 : Option Addr) (c0_1 : Nat) (l0_1 : List (S24)) (a0_2 : Int) (a0_3 : Int) (a0_4 : Int) (r : Int) (w : World) (hr0_0 : Kd.C Kd.string w A0_0 l0_0.length l0_0) (hc0_0 : l0_0.length ≤ c0_0) (hr0_1 : Kd.C k24 w A0_1 l0_1.length l0_1) (hc0_1 : l0_1.length ≤ c0_1) (h : vault_Room.f l0_0 l0_1 a0_2 a0_3 a0_4 = some r) :
    Calls Try.prog 31 #[.agg #[.slice A0_0 l0_0.length c0_0, .slice A0_1 l0_1.length c0_1, .int .i64 a0_2, .int .i64 a0_3, .int .i64 a0_4]] w fun e w' => e = .returned (.int .i64 r) ∧ Below w.heap.size w w' := by
  unfold vault_Room.f at h
  by_cases hg : goodB l0_0 l0_1 a0_2 a0_3 a0_4 = true
  case neg => rw [if_neg hg] at h; cases h
  rw [if_pos hg] at h
  obtain rfl := Option.some.inj h
  obtain ⟨q, hh, l, rfl, rfl, rfl⟩ := good_nat hg
  obtain ⟨rfl, G⟩ := good_iff.1 hg
  have n1 := G.n1
  have n2 := G.n2
  exact vroom_true w hr0_0 hc0_0 hr0_1 (fun W hW => right_calls W G (Kd.C_below hr0_0 hW) hc0_0 (Kd.C_below hr0_1 hW)) (room_eq _ _ _ _ _ (by omega) (by omega))
section
variable {su : List ByteArray} {q h l : Nat} {A0 A1 : Option Addr} {c0 c1 : Nat} (w : World)
theorem text_size (G : GS su q h l) : (textN su h l).size = l := by
  have n1 := G.n1
  have h2 := G.k.h
  have h3 := G.k.l
  have hw : 2 + 2 * wdN su ≤ su.length := by unfold wdN; omega
  have hp : h * wdN su ≤ wdN su := Nat.le_trans (Nat.mul_le_mul_right _ h2) (by omega)
  unfold textN
  rw [ByteArray.size_extract, joinB_size G.sur _ _ (by omega)]
  omega
theorem text_calls {ln : Nat} (hr : rightB su [] = true) (n1 : 4 ≤ su.length) (hh : h ≤ 1) (hln : ln ≤ 64 * wdN su) (hsu : Kd.C Kd.string w A0 su.length su) (hc0 : su.length ≤ c0) (hso : Kd.C k24 w A1 0 ([] : List S24)) (sq : Int) :
    Calls Try.prog 61 #[.agg #[.slice A0 su.length c0, .slice A1 0 c1, .int .i64 sq, .int .i64 (h : Int), .int .i64 (ln : Int)]] w fun e w' => e = .returned (.string (textN su h ln)) ∧ Below w.heap.size w w' := by
  have R := right_iff.1 hr
  have n2 := R.most
  have hw : 2 + 2 * wdN su ≤ su.length := by unfold wdN; omega
  exact vtext_calls w hsu hc0 hso (wide_eq su [] _ _ _ (by omega) (by omega)) hw (by omega) hh rfl R.fits.sur hln
theorem next_calls (G : GS su q h l) (hq : q + 1 ≤ 1099511627776) {s : ByteArray} (hs : s.size ≤ 1000) (ins : Bool) (hsu : Kd.C Kd.string w A0 su.length su) (hc0 : su.length ≤ c0) (hso : Kd.C k24 w A1 0 ([] : List S24)) :
    Calls Try.prog 59 #[.agg #[.slice A0 su.length c0, .slice A1 0 c1, .int .i64 (q : Int), .int .i64 (h : Int), .int .i64 (l : Int)], .string s, .bool ins] w fun e w' =>
      e = .returned (.tuple #[.agg #[.slice A0 su.length c0, .slice A1 0 c1, .int .i64 ((q : Int) + 1), .int .i64 (halfN h ins : Int), .int .i64 ((allN su h l s ins).size : Int)], .string (allN su h l s ins), .bool (fitsB su h l s ins)]) ∧ Below w.heap.size w w' := by
  have n1 := G.n1
  have n2 := G.n2
  have h2 := G.k.h
  have h3 := G.k.l
  have hw : wdN su ≤ 200 := by unfold wdN; omega
  have hf : fitsB su h l s ins = decide (((allN su h l s ins).size : Int) ≤ 64 * (wdN su : Int)) := decide_eq_decide.2 (by omega)
  rw [hf]
  cases ins with
  | true => exact vnext_new (U := s) (n := s.size) rfl (show h + (1 - h) = 1 by omega) w hsu hc0 hso (by omega) (by omega) (by omega) (room_eq su [] _ _ _ (by omega) (by omega))
  | false =>
    have ht := text_size G
    have hz : (textN su h l ++ s).size = l + s.size := by rw [ByteArray.size_append, ht]
    exact vnext_add (T := textN su h l) (U := textN su h l ++ s) (n := (textN su h l ++ s).size) rfl rfl w hsu hc0 hso (by omega) (by omega) (by omega) (fun W hW => text_calls W G.r n1 h2 h3 (Kd.C_below hsu hW) hc0 (Kd.C_below hso hW) _) (room_eq su [] _ _ _ (by omega) (by omega))
theorem moves_calls (G : GS su q h l) (hq : q + 1 ≤ 1099511627776) {s : ByteArray} (hs : s.size ≤ 1000) (ins : Bool) (hf : fitsB su h l s ins = true) (hsu : Kd.C Kd.string w A0 su.length su) (hc0 : su.length ≤ c0) (hso : Kd.C k24 w A1 0 ([] : List S24)) :
    Calls Try.prog 37 #[.agg #[.slice A0 su.length c0, .slice A1 0 c1, .int .i64 (q : Int), .int .i64 (h : Int), .int .i64 (l : Int)], .string s, .bool ins] w fun e w' => ∃ v, e = .returned (.tuple #[v, .int .i64 0]) ∧ Kd.R k24 24 w' w.heap.size (fun _ => True) v (movesN su q h l s ins) ∧ Below w.heap.size w w' := by
  have n1 := G.n1
  have n2 := G.n2
  have h2 := G.k.h
  have h3 := G.k.l
  have hw : wdN su ≤ 200 := by unfold wdN; omega
  have hw2 : 2 + 2 * wdN su ≤ su.length := by unfold wdN; omega
  have hz : s.size ≤ (allN su h l s ins).size := by
    unfold allN
    split
    · omega
    · rw [ByteArray.size_append]; omega
  have hfit : (allN su h l s ins).size ≤ 64 * wdN su := of_decide_eq_true hf
  have hh : halfN h ins ≤ 1 := by unfold halfN; split <;> omega
  have ht : ((q : Int) + 1).tmod 2 = (((q + 1) % 2 : Nat) : Int) := by rw [Int.tmod_eq_emod_of_nonneg (by omega)]; omega
  have hN := fun W hW => next_calls W G hq hs ins (Kd.C_below hsu hW) hc0 (c1 := c1) (Kd.C_below hso hW)
  rw [hf] at hN
  have := vmoves_calls 30 (half := halfN h ins) (n := (allN su h l s ins).size) (all := allN su h l s ins) (hd := headP (q + 1) (halfN h ins) (allN su h l s ins).size) (s := s) (ins := ins) (rm := 0) w hsu hc0 hso (fun W hW => right_calls W G (Kd.C_below hsu hW) hc0 (Kd.C_below hso hW)) hN rfl hz (by omega)
    (wide_eq su [] _ _ _ (by omega) (by omega)) hw2 (by omega) hh rfl G.sur (head_eq su [] (q + 1) _ _) (by omega) (by omega)
  rw [ht] at this
  exact this
theorem long_calls (G : GS su q h l) (hq : q + 1 ≤ 1099511627776) {s : ByteArray} (hs : s.size ≤ 1000) (ins : Bool) (hf : fitsB su h l s ins = false) (hsu : Kd.C Kd.string w A0 su.length su) (hc0 : su.length ≤ c0) (hso : Kd.C k24 w A1 0 ([] : List S24)) :
    Calls Try.prog 37 #[.agg #[.slice A0 su.length c0, .slice A1 0 c1, .int .i64 (q : Int), .int .i64 (h : Int), .int .i64 (l : Int)], .string s, .bool ins] w fun e w' => ∃ v, e = .returned (.tuple #[v, .int .i64 2]) ∧ Kd.R k24 24 w' w.heap.size (fun _ => True) v ([] : List S24) ∧ Below w.heap.size w w' := by
  have hN := fun W hW => next_calls W G hq hs ins (Kd.C_below hsu hW) hc0 (c1 := c1) (Kd.C_below hso hW)
  rw [hf] at hN
  exact vmoves_long w (fun W hW => right_calls W G (Kd.C_below hsu hW) hc0 (Kd.C_below hso hW)) hN
end
theorem next_iff {su : List ByteArray} {so : List S24} {q h l : Nat} {s : ByteArray} : nextB su so (q : Int) (h : Int) (l : Int) s = true ↔ so = [] ∧ GS su q h l ∧ q + 1 ≤ 1099511627776 ∧ s.size ≤ 1000 := by
  unfold nextB
  simp only [Bool.and_eq_true, decide_eq_true_eq, good_iff]
  constructor
  · rintro ⟨⟨⟨a, b⟩, c⟩, d⟩; exact ⟨a, b, by omega, d⟩
  · rintro ⟨a, b, c, d⟩; exact ⟨⟨⟨a, b⟩, by omega⟩, d⟩
theorem next_good {su : List ByteArray} {so : List S24} {a b c : Int} {s : ByteArray} (h : nextB su so a b c s = true) : goodB su so a b c = true := by
  unfold nextB at h
  simp only [Bool.and_eq_true] at h
  exact h.1.1
theorem vault_Moves.calls (A0_0 : Option Addr) (c0_0 : Nat) (l0_0 : List ByteArray) (A0_1 : Option Addr) (c0_1 : Nat) (l0_1 : List (S24)) (a0_2 : Int) (a0_3 : Int) (a0_4 : Int) (a1 : ByteArray) (a2 : Bool) (r1 : List (S24)) (r2 : Int) (w : World) (hr0_0 : Kd.C Kd.string w A0_0 l0_0.length l0_0) (hc0_0 : l0_0.length ≤ c0_0) (hr0_1 : Kd.C k24 w A0_1 l0_1.length l0_1) (hc0_1 : l0_1.length ≤ c0_1) (h : vault_Moves.f l0_0 l0_1 a0_2 a0_3 a0_4 a1 a2 = some (r1, r2)) :
    Calls Try.prog 37 #[.agg #[.slice A0_0 l0_0.length c0_0, .slice A0_1 l0_1.length c0_1, .int .i64 a0_2, .int .i64 a0_3, .int .i64 a0_4], .string a1, .bool a2] w fun e w' => ∃ v0_ : Value, e = .returned (.tuple #[v0_, .int .i64 r2]) ∧ Kd.R k24 24 w' w.heap.size (fun _ => True) v0_ r1 ∧ Below w.heap.size w w' := by
  unfold vault_Moves.f at h
  by_cases hg : nextB l0_0 l0_1 a0_2 a0_3 a0_4 a1 = true
  case neg => rw [if_neg hg] at h; cases h
  rw [if_pos hg] at h
  obtain ⟨q, hh, l, rfl, rfl, rfl⟩ := good_nat (next_good hg)
  obtain ⟨rfl, G, hq, hs⟩ := next_iff.1 hg
  simp only [Int.toNat_natCast] at h
  cases hf : fitsB l0_0 hh l a1 a2
  · rw [hf, if_neg (by decide)] at h
    obtain ⟨rfl, rfl⟩ : [] = r1 ∧ 2 = r2 := by simpa using h
    exact long_calls w G hq hs a2 hf hr0_0 hc0_0 hr0_1
  · rw [hf, if_pos rfl] at h
    obtain ⟨rfl, rfl⟩ : movesN l0_0 q hh l a1 a2 = r1 ∧ 0 = r2 := by simpa using h
    exact moves_calls w G hq hs a2 hf hr0_0 hc0_0 hr0_1
theorem vault_Keep.calls (A0_0 : Option Addr) (c0_0 : Nat) (l0_0 : List ByteArray) (A0_1 : Option Addr) (c0_1 : Nat) (l0_1 : List (S24)) (a0_2 : Int) (a0_3 : Int) (a0_4 : Int) (a1 : ByteArray) (a2 : Bool) (r1 : List ByteArray) (r2 : List (S24)) (r3 : Int) (r4 : Int) (r5 : Int) (r6 : Int) (w : World) (hr0_0 : Kd.C Kd.string w A0_0 l0_0.length l0_0) (hc0_0 : l0_0.length ≤ c0_0) (hr0_1 : Kd.C k24 w A0_1 l0_1.length l0_1) (hc0_1 : l0_1.length ≤ c0_1) (h : vault_Keep.f l0_0 l0_1 a0_2 a0_3 a0_4 a1 a2 = some (r1, r2, r3, r4, r5, r6)) :
    Calls Try.prog 33 #[.agg #[.slice A0_0 l0_0.length c0_0, .slice A0_1 l0_1.length c0_1, .int .i64 a0_2, .int .i64 a0_3, .int .i64 a0_4], .string a1, .bool a2] w fun e w' => ∃ v0_ v1_ : Value, e = .returned (.tuple #[.agg #[v0_, v1_, .int .i64 r3, .int .i64 r4, .int .i64 r5], .int .i64 r6]) ∧ Kd.R Kd.string 9 w' w.heap.size (fun _ => True) v0_ r1 ∧ Kd.R k24 24 w' w.heap.size (fun _ => True) v1_ r2 ∧ Below w.heap.size w w' := by
  unfold vault_Keep.f at h
  by_cases hg : nextB l0_0 l0_1 a0_2 a0_3 a0_4 a1 = true
  case neg => rw [if_neg hg] at h; cases h
  rw [if_pos hg] at h
  obtain ⟨q, hh, l, rfl, rfl, rfl⟩ := good_nat (next_good hg)
  obtain ⟨rfl, G, hq, hs⟩ := next_iff.1 hg
  have n2 := G.n2
  simp only [Int.toNat_natCast] at h
  cases hf : fitsB l0_0 hh l a1 a2
  · rw [hf, if_neg (by decide)] at h
    simp only [Option.some.injEq, Prod.mk.injEq] at h
    obtain ⟨rfl, rfl, rfl, rfl, rfl, rfl⟩ := h
    exact vkeep_err w hr0_0 hc0_0 hr0_1 rfl (by omega) (fun W hW => long_calls W G hq hs a2 hf (Kd.C_below hr0_0 hW) hc0_0 (Kd.C_below hr0_1 hW))
  · rw [hf, if_pos rfl] at h
    simp only [Option.some.injEq, Prod.mk.injEq] at h
    obtain ⟨rfl, rfl, rfl, rfl, rfl, rfl⟩ := h
    have hN := fun W hW => next_calls W G hq hs a2 (Kd.C_below hr0_0 hW) hc0_0 (c1 := c0_1) (Kd.C_below hr0_1 hW)
    rw [hf] at hN
    exact vkeep_calls (er := (doB l0_0 [] (movesN l0_0 q hh l a1 a2)).2.2) w hr0_0 hc0_0 hr0_1 (fun W hW => moves_calls W G hq hs a2 hf (Kd.C_below hr0_0 hW) hc0_0 (Kd.C_below hr0_1 hW)) hN (by unfold disk_Do.f; rw [if_pos ⟨by omega, by simp⟩])
theorem best_cases (m : Nat → HdI) : bestI m 2 = ⟨false, -1, 0, 0⟩ ∨ ∃ i, i < 2 ∧ (m i).is = true ∧ bestI m 2 = m i := by
  have key : ∀ b x : HdI, better b x = b ∨ (x.is = true ∧ better b x = x) := by
    intro b x
    unfold better
    split
    · exact .inr ⟨by rename_i h; exact h.1, rfl⟩
    · exact .inl rfl
  show better (better ⟨false, -1, 0, 0⟩ (m 0)) (m 1) = _ ∨ ∃ i, i < 2 ∧ (m i).is = true ∧ better (better ⟨false, -1, 0, 0⟩ (m 0)) (m 1) = m i
  rcases key (better ⟨false, -1, 0, 0⟩ (m 0)) (m 1) with e | ⟨hi, e⟩
  · rcases key ⟨false, -1, 0, 0⟩ (m 0) with e2 | ⟨hi, e2⟩
    · exact .inl (e.trans e2)
    · exact .inr ⟨0, by omega, hi, e.trans e2⟩
  · exact .inr ⟨1, by omega, hi, e⟩
theorem hd_eta (b : HdI) : b = ⟨b.is, b.q, b.h, b.l⟩ := rfl
theorem hd_is {wd : Nat} {g : ByteArray} (h : (hdI wd g).is = true) : nB g 8 12 ≤ 1 ∧ nB g 12 16 ≤ 64 * wd := by
  unfold hdI at h
  simp only [Bool.and_eq_true, decide_eq_true_eq] at h
  omega
structure OS (su : List ByteArray) : Prop where
  r : rightB su [] = true
  n1 : 4 ≤ su.length
  small : ∀ i : Nat, i < 2 → nB (blkN su i) 0 8 < 9223372036854775808
  par : ∀ i : Nat, i < 2 → (hdI (wdN su) (blkN su i)).is = true → nB (blkN su i) 0 8 % 2 = i
theorem open_iff {su : List ByteArray} {so : List S24} : openB su so = true ↔ so = [] ∧ OS su := by
  unfold openB smallB
  simp only [Bool.and_eq_true, decide_eq_true_eq, List.isEmpty_iff, Bool.or_eq_true, Bool.not_eq_true']
  constructor
  · rintro ⟨⟨⟨⟨⟨⟨e0, hr⟩, h4⟩, s0⟩, s1⟩, p0⟩, p1⟩
    refine ⟨e0, hr, h4, fun i hi => ?_, fun i hi hs => ?_⟩
    · rcases (show i = 0 ∨ i = 1 by omega) with rfl | rfl
      · exact s0
      · exact s1
    · rcases (show i = 0 ∨ i = 1 by omega) with rfl | rfl
      · rcases p0 with p | p
        · exact absurd (p.symm.trans hs) (by decide)
        · exact p
      · rcases p1 with p | p
        · exact absurd (p.symm.trans hs) (by decide)
        · exact p
  · rintro ⟨e0, O⟩
    refine ⟨⟨⟨⟨⟨⟨e0, O.r⟩, O.n1⟩, O.small 0 (by omega)⟩, O.small 1 (by omega)⟩, ?_⟩, ?_⟩
    · cases hi : (hdI (wdN su) (blkN su 0)).is
      · exact .inl rfl
      · exact .inr (O.par 0 (by omega) hi)
    · cases hi : (hdI (wdN su) (blkN su 1)).is
      · exact .inl rfl
      · exact .inr (O.par 1 (by omega) hi)
theorem vault_Open.calls (A0_0 : Option Addr) (c0_0 : Nat) (l0_0 : List ByteArray) (A0_1 : Option Addr) (c0_1 : Nat) (l0_1 : List (S24)) (r1 : List ByteArray) (r2 : List (S24)) (r3 : Int) (r4 : Int) (r5 : Int) (r6 : ByteArray) (r7 : Int) (w : World) (hr0_0 : Kd.C Kd.string w A0_0 l0_0.length l0_0) (hc0_0 : l0_0.length ≤ c0_0) (hr0_1 : Kd.C k24 w A0_1 l0_1.length l0_1) (hc0_1 : l0_1.length ≤ c0_1) (h : vault_Open.f l0_0 l0_1 = some (r1, r2, r3, r4, r5, r6, r7)) :
    Calls Try.prog 35 #[.agg #[.slice A0_0 l0_0.length c0_0, .slice A0_1 l0_1.length c0_1]] w fun e w' => ∃ v0_ v1_ : Value, e = .returned (.tuple #[.agg #[v0_, v1_, .int .i64 r3, .int .i64 r4, .int .i64 r5], .string r6, .int .i64 r7]) ∧ Kd.R Kd.string 9 w' w.heap.size (fun _ => True) v0_ r1 ∧ Kd.R k24 24 w' w.heap.size (fun _ => True) v1_ r2 ∧ Below w.heap.size w w' := by
  unfold vault_Open.f at h
  by_cases hg : openB l0_0 l0_1 = true
  case neg => rw [if_neg hg] at h; cases h
  rw [if_pos hg] at h
  obtain ⟨rfl, O⟩ := open_iff.1 hg
  have R := right_iff.1 O.r
  have n1 := O.n1
  have n2 := R.most
  have hR : ∀ i : Nat, i < 2 → ∀ W, Below w.heap.size w W → Calls Try.prog 22 #[.agg #[.slice A0_0 l0_0.length c0_0, .slice A0_1 0 c0_1], .int .i64 (i : Int)] W fun e w' => e = .returned (.tuple #[.string (blkN l0_0 i), .int .i64 0]) ∧ Below W.heap.size W w' := fun i hi W hW =>
    disk_Read.calls A0_0 c0_0 l0_0 A0_1 c0_1 [] (i : Int) (blkN l0_0 i) 0 W (Kd.C_below hr0_0 hW) hc0_0 (Kd.C_below hr0_1 hW) hc0_1 (by unfold disk_Read.f readB; rw [if_pos ⟨O.r, by omega, by omega⟩]; rfl)
  have hB : ∀ i : Nat, i < 2 → ∀ W g, Below w.heap.size w W → w.heap.size ≤ g → W.heap[g]? = some (.cells #[.slice A0_0 l0_0.length c0_0, .slice A0_1 0 c0_1, .int .i64 0, .int .i64 0, .int .i64 0] 89 (0, 0)) → Calls Try.prog 60 #[.pointer (some ⟨g, 0, none⟩), .string (blkN l0_0 i)] W fun e w' => e = .returned (.bool (hdI (wdN l0_0) (blkN l0_0 i)).is) ∧ w'.heap[g]? = some (.cells #[.slice A0_0 l0_0.length c0_0, .slice A0_1 0 c0_1, .int .i64 (hdI (wdN l0_0) (blkN l0_0 i)).q, .int .i64 (hdI (wdN l0_0) (blkN l0_0 i)).h, .int .i64 (hdI (wdN l0_0) (blkN l0_0 i)).l] 89 (0, 0)) ∧ Below w.heap.size w w' ∧ (∀ g' o, g' ≠ g → W.heap[g']? = some o → w'.heap[g']? = some o) := fun i hi W g hb hg hbb => by
    have hsz := blk_size R.fits.sur (i := i) (by omega)
    have hsm := O.small i hi
    have b2 : nB (blkN l0_0 i) 8 12 < 4294967296 := nB_lt _ 8
    have b3 : nB (blkN l0_0 i) 12 16 < 4294967296 := nB_lt _ 12
    have := vault_read_calls 30 g (so := []) (A1 := A0_1) (c1 := c0_1) (sq := 0) (hf := 0) (ln := 0) (n1 := (nB (blkN l0_0 i) 0 8 : Int)) (n2 := (nB (blkN l0_0 i) 8 12 : Int)) (n3 := (nB (blkN l0_0 i) 12 16 : Int)) (rm := 64 * (wdN l0_0 : Int)) (hd := headP (nB (blkN l0_0 i) 0 8) (nB (blkN l0_0 i) 8 12) (nB (blkN l0_0 i) 12 16)) w W hb hg hbb hr0_0 hc0_0 hr0_1 (Nat.zero_le _) (s := blkN l0_0 i) (by omega) (take_eq (by omega) hsm) (take_eq (by omega) (by omega)) (take_eq (by omega) (by omega)) (room_eq l0_0 [] _ _ _ (by omega) (by omega)) (head_eq l0_0 [] _ _ _) (by omega)
    rw [reads_is] at this
    exact this
  have hp : ∀ i : Nat, i < 2 → (hdI (wdN l0_0) (blkN l0_0 i)).is = true → (hdI (wdN l0_0) (blkN l0_0 i)).q.tmod 2 = i := fun i hi hs => by
    have := O.par i hi hs
    show ((nB (blkN l0_0 i) 0 8 : Nat) : Int).tmod 2 = i
    rw [Int.tmod_eq_emod_of_nonneg (by omega)]
    omega
  have hq : ∀ i : Nat, i < 2 → 0 ≤ (hdI (wdN l0_0) (blkN l0_0 i)).q := fun i hi => Int.natCast_nonneg _
  by_cases hneg : (bestN l0_0).q < 0
  · rw [if_pos hneg] at h
    simp only [Option.some.injEq, Prod.mk.injEq] at h
    obtain ⟨rfl, rfl, rfl, rfl, rfl, rfl, rfl⟩ := h
    exact vopen_none (fun i => blkN l0_0 i) (fun i => hdI (wdN l0_0) (blkN l0_0 i)) (er := 0) (r1 := []) (T := ⟨#[]⟩) w hr0_0 hc0_0 hr0_1 (may_ok O.r O.n1) (by omega) hR hB hp hq (b0 := (bestN l0_0).is) (bq := (bestN l0_0).q) (bh := (bestN l0_0).h) (bl := (bestN l0_0).l) (hd_eta (bestN l0_0)) hneg
  · rw [if_neg hneg] at h
    simp only [Option.some.injEq, Prod.mk.injEq] at h
    obtain ⟨rfl, rfl, rfl, rfl, rfl, rfl, rfl⟩ := h
    refine vopen_ok (fun i => blkN l0_0 i) (fun i => hdI (wdN l0_0) (blkN l0_0 i)) (er := 0) (r1 := l0_0) w hr0_0 hc0_0 hr0_1 (may_ok O.r O.n1) (by omega) hR hB hp hq (b0 := (bestN l0_0).is) (bq := (bestN l0_0).q) (bh := (bestN l0_0).h) (bl := (bestN l0_0).l) (hd_eta (bestN l0_0)) ?_ (by omega) ?_
    · unfold disk_Do.f doB
      rw [if_pos ⟨by omega, by simp⟩, if_pos ⟨O.r, rfl⟩]
      rfl
    · intro W Ap cp Aq cq h0 h1 h2
      rcases best_cases (fun i => hdI (wdN l0_0) (blkN l0_0 i)) with e | ⟨i, hi, his, e⟩
      · exact absurd (show (bestN l0_0).q < 0 by show (bestI _ 2).q < 0; rw [e]; decide) hneg
      · obtain ⟨k1, k2⟩ := hd_is his
        have eh : (bestN l0_0).h = ((nB (blkN l0_0 i) 8 12 : Nat) : Int) := by show (bestI _ 2).h = _; rw [e]; rfl
        have el : (bestN l0_0).l = ((nB (blkN l0_0 i) 12 16 : Nat) : Int) := by show (bestI _ 2).l = _; rw [e]; rfl
        rw [eh, el]
        simp only [Int.toNat_natCast]
        exact text_calls W O.r O.n1 k1 k2 h0 h1 h2 _
end Go.Proofs.Ytcfinlmocgbnbaa.Pr
end
section
namespace Go.Proofs.Ytcfinlmocgbnbaa.Pr
open Go.Proofs.Ytcfinlmocgbnbaa.Sq Go.RowKit Go.Shelf Go.Proofs.Ytcfinlmocgbnbaa.XB Go.Proofs.YtcfinlmocgbnbaaW.PrintWords Go.Proofs.YtcfinlmocgbnbaaW.PrintLast Go.Proofs.YtcfinlmocgbnbaaW.PrintMore
attribute [local go_sem] Oper.semAt_some
set_option linter.unusedVariables false
set_option linter.unusedSimpArgs false
set_option maxRecDepth 100000
def aw10.T10 : Bool × List (List Nat × List Nat) := (true, [([], []), ([], []), ([1], [1]), ([0, 2], [0, 2]), ([3], [3]), ([4], [4]), ([4], [4]), ([], []), ([7, 5, 3, 0, 1, 2, 3, 4, 5, 7], [5, 7]), ([6, 8, 0, 1, 2, 3, 4, 5, 6, 7, 8], [6])])
def aw10.B10 : List Nat := [0, 0, 2, 7, 15, 31, 31, 0, 191, 511]
theorem aw10.tab10 : rtab .any (opsOf Try.f28 10) = aw10.T10 := by kernel_rfl
theorem aw10.bits10 : waitsOk aw10.T10.2 aw10.B10 = true := by kernel_rfl
def regionIn15 : Code → Nat → Option Code
  | .region id ops m, k => if id == k then some (.region id ops m) else none
  | .seq a b, k => match regionIn15 a k with
    | some o => some o
    | none => regionIn15 b k
  | .cond _ a b, k => match regionIn15 a k with
    | some o => some o
    | none => regionIn15 b k
  | .block _ c, k => regionIn15 c k
  | .loop c, k => regionIn15 c k
  | .scope c, k => regionIn15 c k
  | _, _ => none
noncomputable def aw10 : Code := ((Try.f28.body.bind fun c => regionIn15 c 10)).getD .skip
set_option maxHeartbeats 8000000 in
theorem aw10_r {Q : Exit → Act → World → Prop} (go : Nat) {su : List ByteArray} {A B : Option Addr} {c0 c1 : Nat} (w : World) (hp : ∀ c a (m : Nat) v w, Q (.panic c) (a.put (some m) v) w → Q (.panic c) a w)
    (hgo : w.heap[go]? = some (.cells #[.slice A su.length c0, .slice B 0 c1, .int .i64 3, .int .i64 1, .int .i64 5] 56 (0, 0))) (hsu : Kd.C Kd.string w A su.length su) (hl : su.length ≤ c0) (hso : Kd.C k24 w B 0 ([] : List S24)) (he : vault_Keep.f su [] 3 1 5 (strOfNums (List.replicate 65 0)) true = some (su, [], 3, 1, 5, 2))
    {p0 p1 p2 p3 p4 p5 p6 p7 p8 p9 p10 p11 p13 p14 p15 p16 p17 p18 p19 p20 p21 p24 p25 p26 p27 p28 p29 p30 p31 p32 p33 p34 p35 p36 p37 p38 p39 p40 p41 p42 p43 p44 p45 p46 p47 p48 p49 p50 p51 p52 p53 p54 p55 p56 p57 p58 p59 p60 p61 p62 p63 p64 p65 p66 p67 p68 p69 p70 p71 p72 p80 p81 p82 p83 p84 p85 p86 p87 p88 p89 p90 p91 p92 p93 p94 p95 p96 p97 p98 p99 p100 p101 p102 p103 p104 p105 p106 p107 p108 p109 p110 p111 p112 p113 p114 p115 p116 p117 p118 p119 p120 p121 p122 p123 p124 p125 p126 p127 p128 p129 p130 p131 p132 p133 p134 p135 p136 p137 p138 p139 p140 : Value} {u22 u23 u73 u74 u75 u76 u77 u78 u79 : Value}
    (hQ : ∀ (g22 : Nat) (v73 v74 v75 v76 v77 v78 v79 : Value) (W' : World), Below w.heap.size w W' → Q .normal ⟨#[p0, p1, p2, p3, p4, p5, p6, p7, p8, p9, p10, p11, .pointer (some ⟨go, 0, none⟩), p13, p14, p15, p16, p17, p18, p19, p20, p21, .pointer (some ⟨g22, 0, none⟩), .int .i64 2, p24, p25, p26, p27, p28, p29, p30, p31, p32, p33, p34, p35, p36, p37, p38, p39, p40, p41, p42, p43, p44, p45, p46, p47, p48, p49, p50, p51, p52, p53, p54, p55, p56, p57, p58, p59, p60, p61, p62, p63, p64, p65, p66, p67, p68, p69, p70, p71, p72, v73, v74, v75, v76, v77, v78, v79, p80, p81, p82, p83, p84, p85, p86, p87, p88, p89, p90, p91, p92, p93, p94, p95, p96, p97, p98, p99, p100, p101, p102, p103, p104, p105, p106, p107, p108, p109, p110, p111, p112, p113, p114, p115, p116, p117, p118, p119, p120, p121, p122, p123, p124, p125, p126, p127, p128, p129, p130, p131, p132, p133, p134, p135, p136, p137, p138, p139, p140], []⟩ W') :
    Code.wp Try.prog aw10 Q ⟨#[p0, p1, p2, p3, p4, p5, p6, p7, p8, p9, p10, p11, .pointer (some ⟨go, 0, none⟩), p13, p14, p15, p16, p17, p18, p19, p20, p21, u22, u23, p24, p25, p26, p27, p28, p29, p30, p31, p32, p33, p34, p35, p36, p37, p38, p39, p40, p41, p42, p43, p44, p45, p46, p47, p48, p49, p50, p51, p52, p53, p54, p55, p56, p57, p58, p59, p60, p61, p62, p63, p64, p65, p66, p67, p68, p69, p70, p71, p72, u73, u74, u75, u76, u77, u78, u79, p80, p81, p82, p83, p84, p85, p86, p87, p88, p89, p90, p91, p92, p93, p94, p95, p96, p97, p98, p99, p100, p101, p102, p103, p104, p105, p106, p107, p108, p109, p110, p111, p112, p113, p114, p115, p116, p117, p118, p119, p120, p121, p122, p123, p124, p125, p126, p127, p128, p129, p130, p131, p132, p133, p134, p135, p136, p137, p138, p139, p140], []⟩ w := by
 conv => arg 2; whnf
 have HB := am (below_drew1 (Below.refl w.heap.size w))
 have BO := am (Go.Proofs.YtcfinlmocgbnbaaW.PrintWords.bkD hgo)
 have HC := am (Kd.C_drew hsu)
 have HD := am (Kd.C_drew hso)
 clear hgo hsu hso
 refine start_ (n := 10) (S := fun w' => w'.cell? ⟨go, 0, none⟩ = some (.slice A su.length c0) ∧ w'.cell? ⟨go, 1, none⟩ = some (.slice B 0 c1) ∧ w'.cell? ⟨go, 2, none⟩ = some (.int .i64 3) ∧ w'.cell? ⟨go, 3, none⟩ = some (.int .i64 1) ∧ w'.cell? ⟨go, 4, none⟩ = some (.int .i64 5)) (ds := [8]) #[false, false, false, false, false, false, false, false, false, false] (by kernel_rfl) rfl rfl (bc5 BO) (fun hHeld => ?_); refine with_tabW aw10.tab10 aw10.bits10 (fun HT_ HW_ => ?_)
 generalize w.drew = w0 at HB BO HC HD hHeld ⊢
 refine tk_ 0 (some 74) HT_ HW_ rfl rfl (.inl ⟨by rfl, by rintro w' ⟨s0, s1, s2, s3, s4⟩; go_simp; with_reducible rfl⟩) hHeld (by simp only [Act.put, sa_, s0_, s1_, i64_w, i32_w]; rfl) ?_ (by kernel_rfl) (fun c a w h => hp c a _ _ w h)
 refine two_ (i := 1) (j := 7) (Ni := (some 75)) (Nj := (some 22)) #[true, true, false, false, false, false, false, false, false, false] #[true, false, false, false, false, false, false, true, false, false] rfl rfl rfl rfl (two_of HT_.out (by kernel_rfl)) (by decide) (by decide) (fun K hK => ?_) (fun K hK => ?_)
 ·skip
  refine Kd.R_make_step (Kd.int .u8) _ 5 (by rfl) (N := 75) rfl 49 _ _ rfl 65 rfl rfl Try.underlying49 (.int .u8 0) 1 info5 rfl (by decide) (by omega) 0 (ok := fun _ => True) (okp := fun _ => True) rfl (fun _ hk => hk) trivial (by omega) (by omega) (Below.refl _ _) (Nat.le_refl _) ?_
  intro v75 W5 h5 hb hg_ hn_
  clear hg_ hn_
  have n0_ := am (below_step HB.out hb); have n1_ := am (blk_same BO.out hb); have n2_ := am (Kd.C_below HC.out hb); have n3_ := am (Kd.C_below HD.out hb); clear HB BO HC HD; have HB := n0_; have BO := n1_; have HC := n2_; have HD := n3_; clear n0_ n1_ n2_ n3_
  have HW5 := am h5; clear h5 hb
  refine hK.out _ _ (bc5 BO) (fun hHeld => ?_)
  clear hK K
  refine norm_ (by show Act.put _ (some 75) _ = _; simp only [Act.put, sa_, s0_, s1_, i64_w, i32_w]; rfl) ?_
  refine two_ (i := 2) (j := 7) (Ni := (some 76)) (Nj := (some 22)) #[true, true, true, false, false, false, false, false, false, false] #[true, true, false, false, false, false, false, true, false, false] rfl rfl rfl rfl (two_of HT_.out (by kernel_rfl)) (by decide) (by decide) (fun K hK => ?_) (fun K hK => ?_)
  ·skip
   have hcv := own_string (P := Try.prog) Try.underlying49 Try.underlying5 Try.underlying9 (Kd.own_of_R HW5.out)
   refine value_ (w1 := ?_) (v := ?_) (by rfl) rfl ?_ ?_
   rotate_left 2
   · go_simp
     constructor
     rotate_left
     · rfl
     rfl
   clear hcv
   refine hK.out _ _ (bc5 BO) (fun hHeld => ?_)
   clear hK K
   refine norm_ (by show Act.put _ (some 76) _ = _; simp only [Act.put, sa_, s0_, s1_, i64_w, i32_w]; rfl) ?_
   refine two_ (i := 3) (j := 7) (Ni := (some 77)) (Nj := (some 22)) #[true, true, true, true, false, false, false, false, false, false] #[true, true, true, false, false, false, false, true, false, false] rfl rfl rfl rfl (two_of HT_.out (by kernel_rfl)) (by decide) (by decide) (fun K hK => ?_) (fun K hK => ?_)
   ·skip
    refine goes_ Try.func33 (by kernel_rfl) rfl #[.agg #[.slice A su.length c0, .slice B 0 c1, .int .i64 3, .int .i64 1, .int .i64 5], .string (strOfNums (List.replicate (Int.toNat 65) 0)), .bool true] (by rfl) rfl rfl (by (try simp only [List.map_toArray, List.map_cons, List.map_nil]) <;> rfl) ?_
    refine (vault_Keep.calls _ _ su _ _ [] 3 1 5 (strOfNums (List.replicate 65 0)) true su [] 3 1 5 2 _ HC.out hl HD.out (Nat.zero_le _) he).mono ?_
    rintro e W6 ⟨v0, v1, rfl, h0, h1, hb⟩
    obtain ⟨Ar, cr, e0⟩ := Kd.R_slice h0
    subst e0
    obtain ⟨Br, dr, e1⟩ := Kd.R_slice h1
    subst e1
    clear h0 h1
    refine ⟨_, rfl, ?_⟩
    have n0_ := am (below_step HB.out hb); have n1_ := am (blk_same BO.out hb); have n2_ := am (Kd.C_below HC.out hb); have n3_ := am (Kd.C_below HD.out hb); have n4_ := am (Kd.R_below HW5.out hb); clear HB BO HC HD HW5; have HB := n0_; have BO := n1_; have HC := n2_; have HD := n3_; have HW5 := n4_; clear n0_ n1_ n2_ n3_ n4_
    clear hb
    refine hK.out _ _ (bc5 BO) (fun hHeld => ?_)
    clear hK K
    refine norm_ (by show Act.put _ (some 77) _ = _; simp only [Act.put, sa_, s0_, s1_, i64_w, i32_w]; rfl) ?_
    refine pu_ 4 (some 73) HT_ rfl rfl (.inl ⟨by rfl, by intro w'; go_simp; with_reducible rfl⟩) (by simp only [Act.put, sa_, s0_, s1_, i64_w, i32_w]; rfl) ?_ (by kernel_rfl) (fun c a w h => hp c a _ _ w h)
    refine pu_ 5 (some 78) HT_ rfl rfl (.inl ⟨by rfl, by intro w'; go_simp; with_reducible rfl⟩) (by simp only [Act.put, sa_, s0_, s1_, i64_w, i32_w]; rfl) ?_ (by kernel_rfl) (fun c a w h => hp c a _ _ w h)
    refine pu_ 6 (some 79) HT_ rfl rfl (.inl ⟨by rfl, by intro w'; go_simp; with_reducible rfl⟩) (by simp only [Act.put, sa_, s0_, s1_, i64_w, i32_w]; rfl) ?_ (by kernel_rfl) (fun c a w h => hp c a _ _ w h)
    refine on_ 7 (some 22) HT_ rfl rfl (fun K hK => ?_)
    refine box_step ?hg (N := 22) ?hd (cs := #[.slice none 0 0, .slice none 0 0, .int .i64 0, .int .i64 0, .int .i64 0]) (t := 56) ?hr ?_; (case hd => rfl); (case hg => rfl); (case hr => first | (go_simp; done) | (go_simp; rfl))
    intro g22 eg22 Wg Bg hb
    have l22 : w.heap.size ≤ g22 := by rw [eg22]; exact HB.out.size
    have n22 : go ≠ g22 := by have := Go.Proofs.YtcfinlmocgbnbaaW.PrintWords.blk_lt BO.out; omega
    clear eg22
    have n0_ := am (below_step HB.out hb); have n1_ := am (blk_same BO.out hb); have n2_ := am (Kd.C_below HC.out hb); have n3_ := am (Kd.C_below HD.out hb); have n4_ := am (Kd.R_below HW5.out hb); clear HB BO HC HD HW5; have HB := n0_; have BO := n1_; have HC := n2_; have HD := n3_; have HW5 := n4_; clear n0_ n1_ n2_ n3_ n4_
    have B22 := am Bg; clear Bg hb
    refine hK.out _ _ (bc5 BO) (fun hHeld => ?_)
    clear hK K
    refine norm_ (by show Act.put _ (some 22) _ = _; simp only [Act.put, sa_, s0_, s1_, i64_w, i32_w]; rfl) ?_
    refine la_ 8 none HT_ rfl rfl (fun K hK => ?_)
    have hc0 := (blk_cell B22.out 0).trans rfl; have hf0 := blk_frozen B22.out 0
    have hc1 := (blk_cell B22.out 1).trans rfl; have hf1 := blk_frozen B22.out 1
    have hc2 := (blk_cell B22.out 2).trans rfl; have hf2 := blk_frozen B22.out 2
    have hc3 := (blk_cell B22.out 3).trans rfl; have hf3 := blk_frozen B22.out 3
    have hc4 := (blk_cell B22.out 4).trans rfl; have hf4 := blk_frozen B22.out 4
    refine skip_ (by rfl) rfl (by go_simp; rfl) ?_
    clear hc0 hc1 hc2 hc3 hc4 hf0 hf1 hf2 hf3 hf4
    refine hK.out _ _ ?_
    clear hK K
    refine pu_ 9 (some 23) HT_ rfl rfl (.inl ⟨by rfl, by intro w'; go_simp; with_reducible rfl⟩) (by simp only [Act.put, sa_, s0_, s1_, i64_w, i32_w]; rfl) ?_ (by kernel_rfl) (fun c a w h => hp c a _ _ w h)
    refine done_ (done_of HT_.out (by kernel_rfl)) ?_
    exact hQ g22 _ _ _ _ _ _ _ _ (below_set (below_set (below_set (below_set (below_set HB.out l22) l22) l22) l22) l22)
   ·skip
    refine box_step ?hg (N := 22) ?hd (cs := #[.slice none 0 0, .slice none 0 0, .int .i64 0, .int .i64 0, .int .i64 0]) (t := 56) ?hr ?_; (case hd => rfl); (case hg => rfl); (case hr => first | (go_simp; done) | (go_simp; rfl))
    intro g22 eg22 Wg Bg hb
    have l22 : w.heap.size ≤ g22 := by rw [eg22]; exact HB.out.size
    have n22 : go ≠ g22 := by have := Go.Proofs.YtcfinlmocgbnbaaW.PrintWords.blk_lt BO.out; omega
    clear eg22
    have n0_ := am (below_step HB.out hb); have n1_ := am (blk_same BO.out hb); have n2_ := am (Kd.C_below HC.out hb); have n3_ := am (Kd.C_below HD.out hb); have n4_ := am (Kd.R_below HW5.out hb); clear HB BO HC HD HW5; have HB := n0_; have BO := n1_; have HC := n2_; have HD := n3_; have HW5 := n4_; clear n0_ n1_ n2_ n3_ n4_
    have B22 := am Bg; clear Bg hb
    refine hK.out _ _ (bc5 BO) (fun hHeld => ?_)
    clear hK K
    refine norm_ (by show Act.put _ (some 22) _ = _; simp only [Act.put, sa_, s0_, s1_, i64_w, i32_w]; rfl) ?_
    refine on_ 3 (some 77) HT_ rfl rfl (fun K hK => ?_)
    refine goes_ Try.func33 (by kernel_rfl) rfl #[.agg #[.slice A su.length c0, .slice B 0 c1, .int .i64 3, .int .i64 1, .int .i64 5], .string (strOfNums (List.replicate (Int.toNat 65) 0)), .bool true] (by rfl) rfl rfl (by (try simp only [List.map_toArray, List.map_cons, List.map_nil]) <;> rfl) ?_
    refine (vault_Keep.calls _ _ su _ _ [] 3 1 5 (strOfNums (List.replicate 65 0)) true su [] 3 1 5 2 _ HC.out hl HD.out (Nat.zero_le _) he).mono ?_
    rintro e W6 ⟨v0, v1, rfl, h0, h1, hb⟩
    obtain ⟨Ar, cr, e0⟩ := Kd.R_slice h0
    subst e0
    obtain ⟨Br, dr, e1⟩ := Kd.R_slice h1
    subst e1
    clear h0 h1
    refine ⟨_, rfl, ?_⟩
    have n0_ := am (below_step HB.out hb); have n1_ := am (blk_same BO.out hb); have n2_ := am (Kd.C_below HC.out hb); have n3_ := am (Kd.C_below HD.out hb); have n4_ := am (Kd.R_below HW5.out hb); have n5_ := am (blk_same B22.out hb); clear HB BO HC HD HW5 B22; have HB := n0_; have BO := n1_; have HC := n2_; have HD := n3_; have HW5 := n4_; have B22 := n5_; clear n0_ n1_ n2_ n3_ n4_ n5_
    clear hb
    refine hK.out _ _ (bc5 BO) (fun hHeld => ?_)
    clear hK K
    refine norm_ (by show Act.put _ (some 77) _ = _; simp only [Act.put, sa_, s0_, s1_, i64_w, i32_w]; rfl) ?_
    refine pu_ 4 (some 73) HT_ rfl rfl (.inl ⟨by rfl, by intro w'; go_simp; with_reducible rfl⟩) (by simp only [Act.put, sa_, s0_, s1_, i64_w, i32_w]; rfl) ?_ (by kernel_rfl) (fun c a w h => hp c a _ _ w h)
    refine pu_ 5 (some 78) HT_ rfl rfl (.inl ⟨by rfl, by intro w'; go_simp; with_reducible rfl⟩) (by simp only [Act.put, sa_, s0_, s1_, i64_w, i32_w]; rfl) ?_ (by kernel_rfl) (fun c a w h => hp c a _ _ w h)
    refine pu_ 6 (some 79) HT_ rfl rfl (.inl ⟨by rfl, by intro w'; go_simp; with_reducible rfl⟩) (by simp only [Act.put, sa_, s0_, s1_, i64_w, i32_w]; rfl) ?_ (by kernel_rfl) (fun c a w h => hp c a _ _ w h)
    refine la_ 8 none HT_ rfl rfl (fun K hK => ?_)
    have hc0 := (blk_cell B22.out 0).trans rfl; have hf0 := blk_frozen B22.out 0
    have hc1 := (blk_cell B22.out 1).trans rfl; have hf1 := blk_frozen B22.out 1
    have hc2 := (blk_cell B22.out 2).trans rfl; have hf2 := blk_frozen B22.out 2
    have hc3 := (blk_cell B22.out 3).trans rfl; have hf3 := blk_frozen B22.out 3
    have hc4 := (blk_cell B22.out 4).trans rfl; have hf4 := blk_frozen B22.out 4
    refine skip_ (by rfl) rfl (by go_simp; rfl) ?_
    clear hc0 hc1 hc2 hc3 hc4 hf0 hf1 hf2 hf3 hf4
    refine hK.out _ _ ?_
    clear hK K
    refine pu_ 9 (some 23) HT_ rfl rfl (.inl ⟨by rfl, by intro w'; go_simp; with_reducible rfl⟩) (by simp only [Act.put, sa_, s0_, s1_, i64_w, i32_w]; rfl) ?_ (by kernel_rfl) (fun c a w h => hp c a _ _ w h)
    refine done_ (done_of HT_.out (by kernel_rfl)) ?_
    exact hQ g22 _ _ _ _ _ _ _ _ (below_set (below_set (below_set (below_set (below_set HB.out l22) l22) l22) l22) l22)
  ·skip
   refine box_step ?hg (N := 22) ?hd (cs := #[.slice none 0 0, .slice none 0 0, .int .i64 0, .int .i64 0, .int .i64 0]) (t := 56) ?hr ?_; (case hd => rfl); (case hg => rfl); (case hr => first | (go_simp; done) | (go_simp; rfl))
   intro g22 eg22 Wg Bg hb
   have l22 : w.heap.size ≤ g22 := by rw [eg22]; exact HB.out.size
   have n22 : go ≠ g22 := by have := Go.Proofs.YtcfinlmocgbnbaaW.PrintWords.blk_lt BO.out; omega
   clear eg22
   have n0_ := am (below_step HB.out hb); have n1_ := am (blk_same BO.out hb); have n2_ := am (Kd.C_below HC.out hb); have n3_ := am (Kd.C_below HD.out hb); have n4_ := am (Kd.R_below HW5.out hb); clear HB BO HC HD HW5; have HB := n0_; have BO := n1_; have HC := n2_; have HD := n3_; have HW5 := n4_; clear n0_ n1_ n2_ n3_ n4_
   have B22 := am Bg; clear Bg hb
   refine hK.out _ _ (bc5 BO) (fun hHeld => ?_)
   clear hK K
   refine norm_ (by show Act.put _ (some 22) _ = _; simp only [Act.put, sa_, s0_, s1_, i64_w, i32_w]; rfl) ?_
   refine on_ 2 (some 76) HT_ rfl rfl (fun K hK => ?_)
   have hcv := own_string (P := Try.prog) Try.underlying49 Try.underlying5 Try.underlying9 (Kd.own_of_R HW5.out)
   refine value_ (w1 := ?_) (v := ?_) (by rfl) rfl ?_ ?_
   rotate_left 2
   · go_simp
     constructor
     rotate_left
     · rfl
     rfl
   clear hcv
   refine hK.out _ _ (bc5 BO) (fun hHeld => ?_)
   clear hK K
   refine norm_ (by show Act.put _ (some 76) _ = _; simp only [Act.put, sa_, s0_, s1_, i64_w, i32_w]; rfl) ?_
   refine on_ 3 (some 77) HT_ rfl rfl (fun K hK => ?_)
   refine goes_ Try.func33 (by kernel_rfl) rfl #[.agg #[.slice A su.length c0, .slice B 0 c1, .int .i64 3, .int .i64 1, .int .i64 5], .string (strOfNums (List.replicate (Int.toNat 65) 0)), .bool true] (by rfl) rfl rfl (by (try simp only [List.map_toArray, List.map_cons, List.map_nil]) <;> rfl) ?_
   refine (vault_Keep.calls _ _ su _ _ [] 3 1 5 (strOfNums (List.replicate 65 0)) true su [] 3 1 5 2 _ HC.out hl HD.out (Nat.zero_le _) he).mono ?_
   rintro e W6 ⟨v0, v1, rfl, h0, h1, hb⟩
   obtain ⟨Ar, cr, e0⟩ := Kd.R_slice h0
   subst e0
   obtain ⟨Br, dr, e1⟩ := Kd.R_slice h1
   subst e1
   clear h0 h1
   refine ⟨_, rfl, ?_⟩
   have n0_ := am (below_step HB.out hb); have n1_ := am (blk_same BO.out hb); have n2_ := am (Kd.C_below HC.out hb); have n3_ := am (Kd.C_below HD.out hb); have n4_ := am (Kd.R_below HW5.out hb); have n5_ := am (blk_same B22.out hb); clear HB BO HC HD HW5 B22; have HB := n0_; have BO := n1_; have HC := n2_; have HD := n3_; have HW5 := n4_; have B22 := n5_; clear n0_ n1_ n2_ n3_ n4_ n5_
   clear hb
   refine hK.out _ _ (bc5 BO) (fun hHeld => ?_)
   clear hK K
   refine norm_ (by show Act.put _ (some 77) _ = _; simp only [Act.put, sa_, s0_, s1_, i64_w, i32_w]; rfl) ?_
   refine pu_ 4 (some 73) HT_ rfl rfl (.inl ⟨by rfl, by intro w'; go_simp; with_reducible rfl⟩) (by simp only [Act.put, sa_, s0_, s1_, i64_w, i32_w]; rfl) ?_ (by kernel_rfl) (fun c a w h => hp c a _ _ w h)
   refine pu_ 5 (some 78) HT_ rfl rfl (.inl ⟨by rfl, by intro w'; go_simp; with_reducible rfl⟩) (by simp only [Act.put, sa_, s0_, s1_, i64_w, i32_w]; rfl) ?_ (by kernel_rfl) (fun c a w h => hp c a _ _ w h)
   refine pu_ 6 (some 79) HT_ rfl rfl (.inl ⟨by rfl, by intro w'; go_simp; with_reducible rfl⟩) (by simp only [Act.put, sa_, s0_, s1_, i64_w, i32_w]; rfl) ?_ (by kernel_rfl) (fun c a w h => hp c a _ _ w h)
   refine la_ 8 none HT_ rfl rfl (fun K hK => ?_)
   have hc0 := (blk_cell B22.out 0).trans rfl; have hf0 := blk_frozen B22.out 0
   have hc1 := (blk_cell B22.out 1).trans rfl; have hf1 := blk_frozen B22.out 1
   have hc2 := (blk_cell B22.out 2).trans rfl; have hf2 := blk_frozen B22.out 2
   have hc3 := (blk_cell B22.out 3).trans rfl; have hf3 := blk_frozen B22.out 3
   have hc4 := (blk_cell B22.out 4).trans rfl; have hf4 := blk_frozen B22.out 4
   refine skip_ (by rfl) rfl (by go_simp; rfl) ?_
   clear hc0 hc1 hc2 hc3 hc4 hf0 hf1 hf2 hf3 hf4
   refine hK.out _ _ ?_
   clear hK K
   refine pu_ 9 (some 23) HT_ rfl rfl (.inl ⟨by rfl, by intro w'; go_simp; with_reducible rfl⟩) (by simp only [Act.put, sa_, s0_, s1_, i64_w, i32_w]; rfl) ?_ (by kernel_rfl) (fun c a w h => hp c a _ _ w h)
   refine done_ (done_of HT_.out (by kernel_rfl)) ?_
   exact hQ g22 _ _ _ _ _ _ _ _ (below_set (below_set (below_set (below_set (below_set HB.out l22) l22) l22) l22) l22)
 ·skip
  refine box_step ?hg (N := 22) ?hd (cs := #[.slice none 0 0, .slice none 0 0, .int .i64 0, .int .i64 0, .int .i64 0]) (t := 56) ?hr ?_; (case hd => rfl); (case hg => rfl); (case hr => first | (go_simp; done) | (go_simp; rfl))
  intro g22 eg22 Wg Bg hb
  have l22 : w.heap.size ≤ g22 := by rw [eg22]; exact HB.out.size
  have n22 : go ≠ g22 := by have := Go.Proofs.YtcfinlmocgbnbaaW.PrintWords.blk_lt BO.out; omega
  clear eg22
  have n0_ := am (below_step HB.out hb); have n1_ := am (blk_same BO.out hb); have n2_ := am (Kd.C_below HC.out hb); have n3_ := am (Kd.C_below HD.out hb); clear HB BO HC HD; have HB := n0_; have BO := n1_; have HC := n2_; have HD := n3_; clear n0_ n1_ n2_ n3_
  have B22 := am Bg; clear Bg hb
  refine hK.out _ _ (bc5 BO) (fun hHeld => ?_)
  clear hK K
  refine norm_ (by show Act.put _ (some 22) _ = _; simp only [Act.put, sa_, s0_, s1_, i64_w, i32_w]; rfl) ?_
  refine on_ 1 (some 75) HT_ rfl rfl (fun K hK => ?_)
  refine Kd.R_make_step (Kd.int .u8) _ 5 (by rfl) (N := 75) rfl 49 _ _ rfl 65 rfl rfl Try.underlying49 (.int .u8 0) 1 info5 rfl (by decide) (by omega) 0 (ok := fun _ => True) (okp := fun _ => True) rfl (fun _ hk => hk) trivial (by omega) (by omega) (Below.refl _ _) (Nat.le_refl _) ?_
  intro v75 W5 h5 hb hg_ hn_
  clear hg_ hn_
  have n0_ := am (below_step HB.out hb); have n1_ := am (blk_same BO.out hb); have n2_ := am (Kd.C_below HC.out hb); have n3_ := am (Kd.C_below HD.out hb); have n4_ := am (blk_same B22.out hb); clear HB BO HC HD B22; have HB := n0_; have BO := n1_; have HC := n2_; have HD := n3_; have B22 := n4_; clear n0_ n1_ n2_ n3_ n4_
  have HW5 := am h5; clear h5 hb
  refine hK.out _ _ (bc5 BO) (fun hHeld => ?_)
  clear hK K
  refine norm_ (by show Act.put _ (some 75) _ = _; simp only [Act.put, sa_, s0_, s1_, i64_w, i32_w]; rfl) ?_
  refine on_ 2 (some 76) HT_ rfl rfl (fun K hK => ?_)
  have hcv := own_string (P := Try.prog) Try.underlying49 Try.underlying5 Try.underlying9 (Kd.own_of_R HW5.out)
  refine value_ (w1 := ?_) (v := ?_) (by rfl) rfl ?_ ?_
  rotate_left 2
  · go_simp
    constructor
    rotate_left
    · rfl
    rfl
  clear hcv
  refine hK.out _ _ (bc5 BO) (fun hHeld => ?_)
  clear hK K
  refine norm_ (by show Act.put _ (some 76) _ = _; simp only [Act.put, sa_, s0_, s1_, i64_w, i32_w]; rfl) ?_
  refine on_ 3 (some 77) HT_ rfl rfl (fun K hK => ?_)
  refine goes_ Try.func33 (by kernel_rfl) rfl #[.agg #[.slice A su.length c0, .slice B 0 c1, .int .i64 3, .int .i64 1, .int .i64 5], .string (strOfNums (List.replicate (Int.toNat 65) 0)), .bool true] (by rfl) rfl rfl (by (try simp only [List.map_toArray, List.map_cons, List.map_nil]) <;> rfl) ?_
  refine (vault_Keep.calls _ _ su _ _ [] 3 1 5 (strOfNums (List.replicate 65 0)) true su [] 3 1 5 2 _ HC.out hl HD.out (Nat.zero_le _) he).mono ?_
  rintro e W6 ⟨v0, v1, rfl, h0, h1, hb⟩
  obtain ⟨Ar, cr, e0⟩ := Kd.R_slice h0
  subst e0
  obtain ⟨Br, dr, e1⟩ := Kd.R_slice h1
  subst e1
  clear h0 h1
  refine ⟨_, rfl, ?_⟩
  have n0_ := am (below_step HB.out hb); have n1_ := am (blk_same BO.out hb); have n2_ := am (Kd.C_below HC.out hb); have n3_ := am (Kd.C_below HD.out hb); have n4_ := am (blk_same B22.out hb); have n5_ := am (Kd.R_below HW5.out hb); clear HB BO HC HD B22 HW5; have HB := n0_; have BO := n1_; have HC := n2_; have HD := n3_; have B22 := n4_; have HW5 := n5_; clear n0_ n1_ n2_ n3_ n4_ n5_
  clear hb
  refine hK.out _ _ (bc5 BO) (fun hHeld => ?_)
  clear hK K
  refine norm_ (by show Act.put _ (some 77) _ = _; simp only [Act.put, sa_, s0_, s1_, i64_w, i32_w]; rfl) ?_
  refine pu_ 4 (some 73) HT_ rfl rfl (.inl ⟨by rfl, by intro w'; go_simp; with_reducible rfl⟩) (by simp only [Act.put, sa_, s0_, s1_, i64_w, i32_w]; rfl) ?_ (by kernel_rfl) (fun c a w h => hp c a _ _ w h)
  refine pu_ 5 (some 78) HT_ rfl rfl (.inl ⟨by rfl, by intro w'; go_simp; with_reducible rfl⟩) (by simp only [Act.put, sa_, s0_, s1_, i64_w, i32_w]; rfl) ?_ (by kernel_rfl) (fun c a w h => hp c a _ _ w h)
  refine pu_ 6 (some 79) HT_ rfl rfl (.inl ⟨by rfl, by intro w'; go_simp; with_reducible rfl⟩) (by simp only [Act.put, sa_, s0_, s1_, i64_w, i32_w]; rfl) ?_ (by kernel_rfl) (fun c a w h => hp c a _ _ w h)
  refine la_ 8 none HT_ rfl rfl (fun K hK => ?_)
  have hc0 := (blk_cell B22.out 0).trans rfl; have hf0 := blk_frozen B22.out 0
  have hc1 := (blk_cell B22.out 1).trans rfl; have hf1 := blk_frozen B22.out 1
  have hc2 := (blk_cell B22.out 2).trans rfl; have hf2 := blk_frozen B22.out 2
  have hc3 := (blk_cell B22.out 3).trans rfl; have hf3 := blk_frozen B22.out 3
  have hc4 := (blk_cell B22.out 4).trans rfl; have hf4 := blk_frozen B22.out 4
  refine skip_ (by rfl) rfl (by go_simp; rfl) ?_
  clear hc0 hc1 hc2 hc3 hc4 hf0 hf1 hf2 hf3 hf4
  refine hK.out _ _ ?_
  clear hK K
  refine pu_ 9 (some 23) HT_ rfl rfl (.inl ⟨by rfl, by intro w'; go_simp; with_reducible rfl⟩) (by simp only [Act.put, sa_, s0_, s1_, i64_w, i32_w]; rfl) ?_ (by kernel_rfl) (fun c a w h => hp c a _ _ w h)
  refine done_ (done_of HT_.out (by kernel_rfl)) ?_
  exact hQ g22 _ _ _ _ _ _ _ _ (below_set (below_set (below_set (below_set (below_set HB.out l22) l22) l22) l22) l22)
set_option maxHeartbeats 8000000 in
theorem awake_walk {a0 a1 a2 a3 a5 : List ByteArray} {ml : List S24} (e0 : columbariumref14_New.f 600 4 = some (a0, [], 0)) (e1 : vault_Format.f 100 a0 [] = some (a1, [], 0, 0, 0, 0)) (e2 : vault_Keep.f a1 [] 0 0 0 ⟨#[115, 111, 109, 101]⟩ false = some (a2, [], 1, 0, 4, 0))
    (e3 : vault_Keep.f a2 [] 1 0 4 ⟨#[32, 116, 101, 120, 116]⟩ false = some (a3, [], 2, 0, 9, 0)) (e4 : vault_Open.f a3 [] = some (a3, [], 2, 0, 9, ⟨#[115, 111, 109, 101, 32, 116, 101, 120, 116]⟩, 0)) (e5 : vault_Keep.f a3 [] 2 0 9 ⟨#[111, 116, 104, 101, 114]⟩ true = some (a5, [], 3, 1, 5, 0)) (e6 : vault_Open.f a5 [] = some (a5, [], 3, 1, 5, ⟨#[111, 116, 104, 101, 114]⟩, 0))
    (e7 : vault_Moves.f a1 [] 0 0 0 ⟨#[97]⟩ false = some (ml, 0)) (e7l : ml.length = 5) (e8 : vault_Open.f a0 [] = some (a0, [], 0, 0, 0, ⟨#[]⟩, 25)) (e9 : vault_Keep.f a5 [] 3 1 5 (strOfNums (List.replicate 65 0)) true = some (a5, [], 3, 1, 5, 2)) (e10 : vault_Room.f a1 [] 0 0 0 = some 64) (e11 : vault_Right.f a5 [] 3 1 5 = some true) (w : World) :
    Calls Try.prog 28 #[] w fun e w' => e = .returned (.bool true) ∧ Below w.heap.size w w' := by
  have WB := am (Below.refl w.heap.size w)
  go_enter Try.func28, Try.ntmps28
  go_wp2_with fail
  refine (columbariumref14_New.calls 600 4 a0 [] 0 _ e0).mono ?_
  rintro e W0 ⟨v0, v1, rfl, h0, h1, hb⟩
  obtain ⟨A0, c0, e0⟩ := Kd.R_slice h0
  subst e0
  obtain ⟨B0, d0, e1⟩ := Kd.R_slice h1
  subst e1
  have w_ := am (below_step WB.out hb)
  clear WB
  have WB := w_
  clear w_
  have C0 := am (Kd.R_reads' h0).2.2; have D0 := am (Kd.R_reads' h1).2.2; have L0 := (Kd.R_reads' h0).2.1
  simp only [List.length_nil] at D0
  clear h0 h1 hb
  go_wp2_with fail
  generalize hX : World.alloc W0 _ = X0
  have n_ := am (show X0.heap[W0.heap.size]? = some (.cells #[.slice A0 a0.length c0, .slice B0 0 d0] 30 (0, 0)) by rw [← hX]; exact heap_alloc_new W0 _)
  have hb : Below W0.heap.size W0 X0 := by rw [← hX]; exact below_alloc (Below.refl _ _) _
  clear hX
  have c0_ := am (Kd.C_below C0.out hb); have d0_ := am (Kd.C_below D0.out hb)
  have w_ := am (below_step WB.out hb)
  clear C0 D0 WB
  have C0 := c0_; have D0 := d0_
  have WB := w_
  clear c0_ d0_ w_
  have Vb1 := n_; clear n_ hb
  refine (vault_Format.calls 100 _ _ a0 _ _ [] a1 [] 0 0 0 0 _ C0.out L0 D0.out (Nat.zero_le _) e1).mono ?_
  rintro e W1 ⟨v0, v1, rfl, h0, h1, hb⟩
  obtain ⟨A1, c1, e0⟩ := Kd.R_slice h0
  subst e0
  obtain ⟨B1, d1, e1⟩ := Kd.R_slice h1
  subst e1
  have mb1_ := am (blk_same Vb1.out hb)
  have c0_ := am (Kd.C_below C0.out hb); have d0_ := am (Kd.C_below D0.out hb)
  have w_ := am (below_step WB.out hb)
  clear Vb1 C0 D0 WB
  have Vb1 := mb1_
  have C0 := c0_; have D0 := d0_
  have WB := w_
  clear mb1_ c0_ d0_ w_
  have C1 := am (Kd.R_reads' h0).2.2; have D1 := am (Kd.R_reads' h1).2.2; have L1 := (Kd.R_reads' h0).2.1
  simp only [List.length_nil] at D1
  clear h0 h1 hb
  go_wp2_with fail
  generalize hX : World.alloc W1 _ = X1
  have n_ := am (show X1.heap[W1.heap.size]? = some (.cells #[.slice A1 a1.length c1, .slice B1 0 d1, .int .i64 0, .int .i64 0, .int .i64 0] 56 (0, 0)) by rw [← hX]; exact heap_alloc_new W1 _)
  have hb : Below W1.heap.size W1 X1 := by rw [← hX]; exact below_alloc (Below.refl _ _) _
  clear hX
  have mb1_ := am (blk_same Vb1.out hb)
  have c0_ := am (Kd.C_below C0.out hb); have d0_ := am (Kd.C_below D0.out hb)
  have c1_ := am (Kd.C_below C1.out hb); have d1_ := am (Kd.C_below D1.out hb)
  have w_ := am (below_step WB.out hb)
  clear Vb1 C0 D0 C1 D1 WB
  have Vb1 := mb1_
  have C0 := c0_; have D0 := d0_
  have C1 := c1_; have D1 := d1_
  have WB := w_
  clear mb1_ c0_ d0_ c1_ d1_ w_
  have Vb3 := n_; clear n_ hb
  refine (vault_Keep.calls _ _ a1 _ _ [] 0 0 0 ⟨#[115, 111, 109, 101]⟩ false a2 [] 1 0 4 0 _ C1.out L1 D1.out (Nat.zero_le _) e2).mono ?_
  rintro e W2 ⟨v0, v1, rfl, h0, h1, hb⟩
  obtain ⟨A2, c2, e0⟩ := Kd.R_slice h0
  subst e0
  obtain ⟨B2, d2, e1⟩ := Kd.R_slice h1
  subst e1
  have mb1_ := am (blk_same Vb1.out hb)
  have mb3_ := am (blk_same Vb3.out hb)
  have c0_ := am (Kd.C_below C0.out hb); have d0_ := am (Kd.C_below D0.out hb)
  have c1_ := am (Kd.C_below C1.out hb); have d1_ := am (Kd.C_below D1.out hb)
  have w_ := am (below_step WB.out hb)
  clear Vb1 Vb3 C0 D0 C1 D1 WB
  have Vb1 := mb1_
  have Vb3 := mb3_
  have C0 := c0_; have D0 := d0_
  have C1 := c1_; have D1 := d1_
  have WB := w_
  clear mb1_ mb3_ c0_ d0_ c1_ d1_ w_
  have C2 := am (Kd.R_reads' h0).2.2; have D2 := am (Kd.R_reads' h1).2.2; have L2 := (Kd.R_reads' h0).2.1
  simp only [List.length_nil] at D2
  clear h0 h1 hb
  go_wp2_with fail
  generalize hX : World.alloc W2 _ = X2
  have n_ := am (show X2.heap[W2.heap.size]? = some (.cells #[.slice A2 a2.length c2, .slice B2 0 d2, .int .i64 1, .int .i64 0, .int .i64 4] 56 (0, 0)) by rw [← hX]; exact heap_alloc_new W2 _)
  have hb : Below W2.heap.size W2 X2 := by rw [← hX]; exact below_alloc (Below.refl _ _) _
  clear hX
  have mb1_ := am (blk_same Vb1.out hb)
  have mb3_ := am (blk_same Vb3.out hb)
  have c0_ := am (Kd.C_below C0.out hb); have d0_ := am (Kd.C_below D0.out hb)
  have c1_ := am (Kd.C_below C1.out hb); have d1_ := am (Kd.C_below D1.out hb)
  have c2_ := am (Kd.C_below C2.out hb); have d2_ := am (Kd.C_below D2.out hb)
  have w_ := am (below_step WB.out hb)
  clear Vb1 Vb3 C0 D0 C1 D1 C2 D2 WB
  have Vb1 := mb1_
  have Vb3 := mb3_
  have C0 := c0_; have D0 := d0_
  have C1 := c1_; have D1 := d1_
  have C2 := c2_; have D2 := d2_
  have WB := w_
  clear mb1_ mb3_ c0_ d0_ c1_ d1_ c2_ d2_ w_
  have Vb5 := n_; clear n_ hb
  refine (vault_Keep.calls _ _ a2 _ _ [] 1 0 4 ⟨#[32, 116, 101, 120, 116]⟩ false a3 [] 2 0 9 0 _ C2.out L2 D2.out (Nat.zero_le _) e3).mono ?_
  rintro e W3 ⟨v0, v1, rfl, h0, h1, hb⟩
  obtain ⟨A3, c3, e0⟩ := Kd.R_slice h0
  subst e0
  obtain ⟨B3, d3, e1⟩ := Kd.R_slice h1
  subst e1
  have mb1_ := am (blk_same Vb1.out hb)
  have mb3_ := am (blk_same Vb3.out hb)
  have mb5_ := am (blk_same Vb5.out hb)
  have c0_ := am (Kd.C_below C0.out hb); have d0_ := am (Kd.C_below D0.out hb)
  have c1_ := am (Kd.C_below C1.out hb); have d1_ := am (Kd.C_below D1.out hb)
  have c2_ := am (Kd.C_below C2.out hb); have d2_ := am (Kd.C_below D2.out hb)
  have w_ := am (below_step WB.out hb)
  clear Vb1 Vb3 Vb5 C0 D0 C1 D1 C2 D2 WB
  have Vb1 := mb1_
  have Vb3 := mb3_
  have Vb5 := mb5_
  have C0 := c0_; have D0 := d0_
  have C1 := c1_; have D1 := d1_
  have C2 := c2_; have D2 := d2_
  have WB := w_
  clear mb1_ mb3_ mb5_ c0_ d0_ c1_ d1_ c2_ d2_ w_
  have C3 := am (Kd.R_reads' h0).2.2; have D3 := am (Kd.R_reads' h1).2.2; have L3 := (Kd.R_reads' h0).2.1
  simp only [List.length_nil] at D3
  clear h0 h1 hb
  go_wp2_with fail
  generalize hX : World.alloc W3 _ = X3
  have n_ := am (show X3.heap[W3.heap.size]? = some (.cells #[.slice A3 a3.length c3, .slice B3 0 d3, .int .i64 2, .int .i64 0, .int .i64 9] 56 (0, 0)) by rw [← hX]; exact heap_alloc_new W3 _)
  have hb : Below W3.heap.size W3 X3 := by rw [← hX]; exact below_alloc (Below.refl _ _) _
  clear hX
  have mb1_ := am (blk_same Vb1.out hb)
  have mb3_ := am (blk_same Vb3.out hb)
  have mb5_ := am (blk_same Vb5.out hb)
  have c0_ := am (Kd.C_below C0.out hb); have d0_ := am (Kd.C_below D0.out hb)
  have c1_ := am (Kd.C_below C1.out hb); have d1_ := am (Kd.C_below D1.out hb)
  have c2_ := am (Kd.C_below C2.out hb); have d2_ := am (Kd.C_below D2.out hb)
  have c3_ := am (Kd.C_below C3.out hb); have d3_ := am (Kd.C_below D3.out hb)
  have w_ := am (below_step WB.out hb)
  clear Vb1 Vb3 Vb5 C0 D0 C1 D1 C2 D2 C3 D3 WB
  have Vb1 := mb1_
  have Vb3 := mb3_
  have Vb5 := mb5_
  have C0 := c0_; have D0 := d0_
  have C1 := c1_; have D1 := d1_
  have C2 := c2_; have D2 := d2_
  have C3 := c3_; have D3 := d3_
  have WB := w_
  clear mb1_ mb3_ mb5_ c0_ d0_ c1_ d1_ c2_ d2_ c3_ d3_ w_
  have Vb7 := n_; clear n_ hb
  refine (vault_Open.calls _ _ a3 _ _ [] a3 [] 2 0 9 ⟨#[115, 111, 109, 101, 32, 116, 101, 120, 116]⟩ 0 _ C3.out L3 D3.out (Nat.zero_le _) e4).mono ?_
  rintro e W4 ⟨v0, v1, rfl, h0, h1, hb⟩
  obtain ⟨A4, c4, e0⟩ := Kd.R_slice h0
  subst e0
  obtain ⟨B4, d4, e1⟩ := Kd.R_slice h1
  subst e1
  have mb1_ := am (blk_same Vb1.out hb)
  have mb3_ := am (blk_same Vb3.out hb)
  have mb5_ := am (blk_same Vb5.out hb)
  have mb7_ := am (blk_same Vb7.out hb)
  have c0_ := am (Kd.C_below C0.out hb); have d0_ := am (Kd.C_below D0.out hb)
  have c1_ := am (Kd.C_below C1.out hb); have d1_ := am (Kd.C_below D1.out hb)
  have c2_ := am (Kd.C_below C2.out hb); have d2_ := am (Kd.C_below D2.out hb)
  have c3_ := am (Kd.C_below C3.out hb); have d3_ := am (Kd.C_below D3.out hb)
  have w_ := am (below_step WB.out hb)
  clear Vb1 Vb3 Vb5 Vb7 C0 D0 C1 D1 C2 D2 C3 D3 WB
  have Vb1 := mb1_
  have Vb3 := mb3_
  have Vb5 := mb5_
  have Vb7 := mb7_
  have C0 := c0_; have D0 := d0_
  have C1 := c1_; have D1 := d1_
  have C2 := c2_; have D2 := d2_
  have C3 := c3_; have D3 := d3_
  have WB := w_
  clear mb1_ mb3_ mb5_ mb7_ c0_ d0_ c1_ d1_ c2_ d2_ c3_ d3_ w_
  have C4 := am (Kd.R_reads' h0).2.2; have D4 := am (Kd.R_reads' h1).2.2; have L4 := (Kd.R_reads' h0).2.1
  simp only [List.length_nil] at D4
  clear h0 h1 hb
  go_wp2_with fail
  generalize hX : World.alloc W4 _ = X4
  have n_ := am (show X4.heap[W4.heap.size]? = some (.cells #[.slice A4 a3.length c4, .slice B4 0 d4, .int .i64 2, .int .i64 0, .int .i64 9] 56 (0, 0)) by rw [← hX]; exact heap_alloc_new W4 _)
  have hb : Below W4.heap.size W4 X4 := by rw [← hX]; exact below_alloc (Below.refl _ _) _
  clear hX
  have mb1_ := am (blk_same Vb1.out hb)
  have mb3_ := am (blk_same Vb3.out hb)
  have mb5_ := am (blk_same Vb5.out hb)
  have mb7_ := am (blk_same Vb7.out hb)
  have c0_ := am (Kd.C_below C0.out hb); have d0_ := am (Kd.C_below D0.out hb)
  have c1_ := am (Kd.C_below C1.out hb); have d1_ := am (Kd.C_below D1.out hb)
  have c2_ := am (Kd.C_below C2.out hb); have d2_ := am (Kd.C_below D2.out hb)
  have c3_ := am (Kd.C_below C3.out hb); have d3_ := am (Kd.C_below D3.out hb)
  have c4_ := am (Kd.C_below C4.out hb); have d4_ := am (Kd.C_below D4.out hb)
  have w_ := am (below_step WB.out hb)
  clear Vb1 Vb3 Vb5 Vb7 C0 D0 C1 D1 C2 D2 C3 D3 C4 D4 WB
  have Vb1 := mb1_
  have Vb3 := mb3_
  have Vb5 := mb5_
  have Vb7 := mb7_
  have C0 := c0_; have D0 := d0_
  have C1 := c1_; have D1 := d1_
  have C2 := c2_; have D2 := d2_
  have C3 := c3_; have D3 := d3_
  have C4 := c4_; have D4 := d4_
  have WB := w_
  clear mb1_ mb3_ mb5_ mb7_ c0_ d0_ c1_ d1_ c2_ d2_ c3_ d3_ c4_ d4_ w_
  have Vb9 := n_; clear n_ hb
  refine (vault_Keep.calls _ _ a3 _ _ [] 2 0 9 ⟨#[111, 116, 104, 101, 114]⟩ true a5 [] 3 1 5 0 _ C4.out L4 D4.out (Nat.zero_le _) e5).mono ?_
  rintro e W5 ⟨v0, v1, rfl, h0, h1, hb⟩
  obtain ⟨A5, c5, e0⟩ := Kd.R_slice h0
  subst e0
  obtain ⟨B5, d5, e1⟩ := Kd.R_slice h1
  subst e1
  have mb1_ := am (blk_same Vb1.out hb)
  have mb3_ := am (blk_same Vb3.out hb)
  have mb5_ := am (blk_same Vb5.out hb)
  have mb7_ := am (blk_same Vb7.out hb)
  have mb9_ := am (blk_same Vb9.out hb)
  have c0_ := am (Kd.C_below C0.out hb); have d0_ := am (Kd.C_below D0.out hb)
  have c1_ := am (Kd.C_below C1.out hb); have d1_ := am (Kd.C_below D1.out hb)
  have c2_ := am (Kd.C_below C2.out hb); have d2_ := am (Kd.C_below D2.out hb)
  have c3_ := am (Kd.C_below C3.out hb); have d3_ := am (Kd.C_below D3.out hb)
  have c4_ := am (Kd.C_below C4.out hb); have d4_ := am (Kd.C_below D4.out hb)
  have w_ := am (below_step WB.out hb)
  clear Vb1 Vb3 Vb5 Vb7 Vb9 C0 D0 C1 D1 C2 D2 C3 D3 C4 D4 WB
  have Vb1 := mb1_
  have Vb3 := mb3_
  have Vb5 := mb5_
  have Vb7 := mb7_
  have Vb9 := mb9_
  have C0 := c0_; have D0 := d0_
  have C1 := c1_; have D1 := d1_
  have C2 := c2_; have D2 := d2_
  have C3 := c3_; have D3 := d3_
  have C4 := c4_; have D4 := d4_
  have WB := w_
  clear mb1_ mb3_ mb5_ mb7_ mb9_ c0_ d0_ c1_ d1_ c2_ d2_ c3_ d3_ c4_ d4_ w_
  have C5 := am (Kd.R_reads' h0).2.2; have D5 := am (Kd.R_reads' h1).2.2; have L5 := (Kd.R_reads' h0).2.1
  simp only [List.length_nil] at D5
  clear h0 h1 hb
  go_wp2_with fail
  generalize hX : World.alloc W5 _ = X5
  have n_ := am (show X5.heap[W5.heap.size]? = some (.cells #[.slice A5 a5.length c5, .slice B5 0 d5, .int .i64 3, .int .i64 1, .int .i64 5] 56 (0, 0)) by rw [← hX]; exact heap_alloc_new W5 _)
  have hb : Below W5.heap.size W5 X5 := by rw [← hX]; exact below_alloc (Below.refl _ _) _
  clear hX
  have mb1_ := am (blk_same Vb1.out hb)
  have mb3_ := am (blk_same Vb3.out hb)
  have mb5_ := am (blk_same Vb5.out hb)
  have mb7_ := am (blk_same Vb7.out hb)
  have mb9_ := am (blk_same Vb9.out hb)
  have c0_ := am (Kd.C_below C0.out hb); have d0_ := am (Kd.C_below D0.out hb)
  have c1_ := am (Kd.C_below C1.out hb); have d1_ := am (Kd.C_below D1.out hb)
  have c2_ := am (Kd.C_below C2.out hb); have d2_ := am (Kd.C_below D2.out hb)
  have c3_ := am (Kd.C_below C3.out hb); have d3_ := am (Kd.C_below D3.out hb)
  have c4_ := am (Kd.C_below C4.out hb); have d4_ := am (Kd.C_below D4.out hb)
  have c5_ := am (Kd.C_below C5.out hb); have d5_ := am (Kd.C_below D5.out hb)
  have w_ := am (below_step WB.out hb)
  clear Vb1 Vb3 Vb5 Vb7 Vb9 C0 D0 C1 D1 C2 D2 C3 D3 C4 D4 C5 D5 WB
  have Vb1 := mb1_
  have Vb3 := mb3_
  have Vb5 := mb5_
  have Vb7 := mb7_
  have Vb9 := mb9_
  have C0 := c0_; have D0 := d0_
  have C1 := c1_; have D1 := d1_
  have C2 := c2_; have D2 := d2_
  have C3 := c3_; have D3 := d3_
  have C4 := c4_; have D4 := d4_
  have C5 := c5_; have D5 := d5_
  have WB := w_
  clear mb1_ mb3_ mb5_ mb7_ mb9_ c0_ d0_ c1_ d1_ c2_ d2_ c3_ d3_ c4_ d4_ c5_ d5_ w_
  have Vb12 := n_; clear n_ hb
  refine (vault_Open.calls _ _ a5 _ _ [] a5 [] 3 1 5 ⟨#[111, 116, 104, 101, 114]⟩ 0 _ C5.out L5 D5.out (Nat.zero_le _) e6).mono ?_
  rintro e W6 ⟨v0, v1, rfl, h0, h1, hb⟩
  obtain ⟨A6, c6, e0⟩ := Kd.R_slice h0
  subst e0
  obtain ⟨B6, d6, e1⟩ := Kd.R_slice h1
  subst e1
  have mb1_ := am (blk_same Vb1.out hb)
  have mb3_ := am (blk_same Vb3.out hb)
  have mb5_ := am (blk_same Vb5.out hb)
  have mb7_ := am (blk_same Vb7.out hb)
  have mb9_ := am (blk_same Vb9.out hb)
  have mb12_ := am (blk_same Vb12.out hb)
  have c0_ := am (Kd.C_below C0.out hb); have d0_ := am (Kd.C_below D0.out hb)
  have c1_ := am (Kd.C_below C1.out hb); have d1_ := am (Kd.C_below D1.out hb)
  have c2_ := am (Kd.C_below C2.out hb); have d2_ := am (Kd.C_below D2.out hb)
  have c3_ := am (Kd.C_below C3.out hb); have d3_ := am (Kd.C_below D3.out hb)
  have c4_ := am (Kd.C_below C4.out hb); have d4_ := am (Kd.C_below D4.out hb)
  have c5_ := am (Kd.C_below C5.out hb); have d5_ := am (Kd.C_below D5.out hb)
  have w_ := am (below_step WB.out hb)
  clear Vb1 Vb3 Vb5 Vb7 Vb9 Vb12 C0 D0 C1 D1 C2 D2 C3 D3 C4 D4 C5 D5 WB
  have Vb1 := mb1_
  have Vb3 := mb3_
  have Vb5 := mb5_
  have Vb7 := mb7_
  have Vb9 := mb9_
  have Vb12 := mb12_
  have C0 := c0_; have D0 := d0_
  have C1 := c1_; have D1 := d1_
  have C2 := c2_; have D2 := d2_
  have C3 := c3_; have D3 := d3_
  have C4 := c4_; have D4 := d4_
  have C5 := c5_; have D5 := d5_
  have WB := w_
  clear mb1_ mb3_ mb5_ mb7_ mb9_ mb12_ c0_ d0_ c1_ d1_ c2_ d2_ c3_ d3_ c4_ d4_ c5_ d5_ w_
  have C6 := am (Kd.R_reads' h0).2.2; have D6 := am (Kd.R_reads' h1).2.2; have L6 := (Kd.R_reads' h0).2.1
  simp only [List.length_nil] at D6
  clear h0 h1 hb
  have k_0 := (blk_cell (bkA Vb3.out (.cells #[.slice A6 a5.length c6, .slice B6 0 d6, .int .i64 3, .int .i64 1, .int .i64 5] 56 (0, 0))) 0).trans rfl
  have k_1 := (blk_cell (bkA Vb3.out (.cells #[.slice A6 a5.length c6, .slice B6 0 d6, .int .i64 3, .int .i64 1, .int .i64 5] 56 (0, 0))) 1).trans rfl
  have k_2 := (blk_cell (bkA Vb3.out (.cells #[.slice A6 a5.length c6, .slice B6 0 d6, .int .i64 3, .int .i64 1, .int .i64 5] 56 (0, 0))) 2).trans rfl
  have k_3 := (blk_cell (bkA Vb3.out (.cells #[.slice A6 a5.length c6, .slice B6 0 d6, .int .i64 3, .int .i64 1, .int .i64 5] 56 (0, 0))) 3).trans rfl
  have k_4 := (blk_cell (bkA Vb3.out (.cells #[.slice A6 a5.length c6, .slice B6 0 d6, .int .i64 3, .int .i64 1, .int .i64 5] 56 (0, 0))) 4).trans rfl
  go_wp2_with fail
  clear k_0 k_1 k_2 k_3 k_4
  generalize hX : World.alloc W6 _ = X6
  have n_ := am (show X6.heap[W6.heap.size]? = some (.cells #[.slice A6 a5.length c6, .slice B6 0 d6, .int .i64 3, .int .i64 1, .int .i64 5] 56 (0, 0)) by rw [← hX]; exact heap_alloc_new W6 _)
  have hb : Below W6.heap.size W6 X6 := by rw [← hX]; exact below_alloc (Below.refl _ _) _
  clear hX
  have mb1_ := am (blk_same Vb1.out hb)
  have mb3_ := am (blk_same Vb3.out hb)
  have mb5_ := am (blk_same Vb5.out hb)
  have mb7_ := am (blk_same Vb7.out hb)
  have mb9_ := am (blk_same Vb9.out hb)
  have mb12_ := am (blk_same Vb12.out hb)
  have c0_ := am (Kd.C_below C0.out hb); have d0_ := am (Kd.C_below D0.out hb)
  have c1_ := am (Kd.C_below C1.out hb); have d1_ := am (Kd.C_below D1.out hb)
  have c2_ := am (Kd.C_below C2.out hb); have d2_ := am (Kd.C_below D2.out hb)
  have c3_ := am (Kd.C_below C3.out hb); have d3_ := am (Kd.C_below D3.out hb)
  have c4_ := am (Kd.C_below C4.out hb); have d4_ := am (Kd.C_below D4.out hb)
  have c5_ := am (Kd.C_below C5.out hb); have d5_ := am (Kd.C_below D5.out hb)
  have c6_ := am (Kd.C_below C6.out hb); have d6_ := am (Kd.C_below D6.out hb)
  have w_ := am (below_step WB.out hb)
  clear Vb1 Vb3 Vb5 Vb7 Vb9 Vb12 C0 D0 C1 D1 C2 D2 C3 D3 C4 D4 C5 D5 C6 D6 WB
  have Vb1 := mb1_
  have Vb3 := mb3_
  have Vb5 := mb5_
  have Vb7 := mb7_
  have Vb9 := mb9_
  have Vb12 := mb12_
  have C0 := c0_; have D0 := d0_
  have C1 := c1_; have D1 := d1_
  have C2 := c2_; have D2 := d2_
  have C3 := c3_; have D3 := d3_
  have C4 := c4_; have D4 := d4_
  have C5 := c5_; have D5 := d5_
  have C6 := c6_; have D6 := d6_
  have WB := w_
  clear mb1_ mb3_ mb5_ mb7_ mb9_ mb12_ c0_ d0_ c1_ d1_ c2_ d2_ c3_ d3_ c4_ d4_ c5_ d5_ c6_ d6_ w_
  have Vb14 := n_; clear n_ hb
  refine (vault_Moves.calls _ _ a1 _ _ [] 0 0 0 ⟨#[97]⟩ false ml 0 _ C1.out L1 D1.out (Nat.zero_le _) e7).mono ?_
  rintro e W7 ⟨v0, rfl, h0, hb⟩
  obtain ⟨A7, c7, e0⟩ := Kd.R_slice h0
  subst e0
  rw [e7l]
  have mb1_ := am (blk_same Vb1.out hb)
  have mb3_ := am (blk_same Vb3.out hb)
  have mb5_ := am (blk_same Vb5.out hb)
  have mb7_ := am (blk_same Vb7.out hb)
  have mb9_ := am (blk_same Vb9.out hb)
  have mb12_ := am (blk_same Vb12.out hb)
  have mb14_ := am (blk_same Vb14.out hb)
  have c0_ := am (Kd.C_below C0.out hb); have d0_ := am (Kd.C_below D0.out hb)
  have c1_ := am (Kd.C_below C1.out hb); have d1_ := am (Kd.C_below D1.out hb)
  have c2_ := am (Kd.C_below C2.out hb); have d2_ := am (Kd.C_below D2.out hb)
  have c3_ := am (Kd.C_below C3.out hb); have d3_ := am (Kd.C_below D3.out hb)
  have c4_ := am (Kd.C_below C4.out hb); have d4_ := am (Kd.C_below D4.out hb)
  have c5_ := am (Kd.C_below C5.out hb); have d5_ := am (Kd.C_below D5.out hb)
  have c6_ := am (Kd.C_below C6.out hb); have d6_ := am (Kd.C_below D6.out hb)
  have w_ := am (below_step WB.out hb)
  clear Vb1 Vb3 Vb5 Vb7 Vb9 Vb12 Vb14 C0 D0 C1 D1 C2 D2 C3 D3 C4 D4 C5 D5 C6 D6 WB
  have Vb1 := mb1_
  have Vb3 := mb3_
  have Vb5 := mb5_
  have Vb7 := mb7_
  have Vb9 := mb9_
  have Vb12 := mb12_
  have Vb14 := mb14_
  have C0 := c0_; have D0 := d0_
  have C1 := c1_; have D1 := d1_
  have C2 := c2_; have D2 := d2_
  have C3 := c3_; have D3 := d3_
  have C4 := c4_; have D4 := d4_
  have C5 := c5_; have D5 := d5_
  have C6 := c6_; have D6 := d6_
  have WB := w_
  clear mb1_ mb3_ mb5_ mb7_ mb9_ mb12_ mb14_ c0_ d0_ c1_ d1_ c2_ d2_ c3_ d3_ c4_ d4_ c5_ d5_ c6_ d6_ w_
  clear h0 hb
  have kb1_0 := (blk_cell Vb1.out 0).trans rfl
  have kb1_1 := (blk_cell Vb1.out 1).trans rfl
  go_wp2_with fail
  clear kb1_0 kb1_1
  refine (vault_Open.calls _ _ a0 _ _ [] a0 [] 0 0 0 ⟨#[]⟩ 25 _ C0.out L0 D0.out (Nat.zero_le _) e8).mono ?_
  rintro e W8 ⟨v0, v1, rfl, h0, h1, hb⟩
  obtain ⟨A8, c8, e0⟩ := Kd.R_slice h0
  subst e0
  obtain ⟨B8, d8, e1⟩ := Kd.R_slice h1
  subst e1
  have mb1_ := am (blk_same Vb1.out hb)
  have mb3_ := am (blk_same Vb3.out hb)
  have mb5_ := am (blk_same Vb5.out hb)
  have mb7_ := am (blk_same Vb7.out hb)
  have mb9_ := am (blk_same Vb9.out hb)
  have mb12_ := am (blk_same Vb12.out hb)
  have mb14_ := am (blk_same Vb14.out hb)
  have c0_ := am (Kd.C_below C0.out hb); have d0_ := am (Kd.C_below D0.out hb)
  have c1_ := am (Kd.C_below C1.out hb); have d1_ := am (Kd.C_below D1.out hb)
  have c2_ := am (Kd.C_below C2.out hb); have d2_ := am (Kd.C_below D2.out hb)
  have c3_ := am (Kd.C_below C3.out hb); have d3_ := am (Kd.C_below D3.out hb)
  have c4_ := am (Kd.C_below C4.out hb); have d4_ := am (Kd.C_below D4.out hb)
  have c5_ := am (Kd.C_below C5.out hb); have d5_ := am (Kd.C_below D5.out hb)
  have c6_ := am (Kd.C_below C6.out hb); have d6_ := am (Kd.C_below D6.out hb)
  have w_ := am (below_step WB.out hb)
  clear Vb1 Vb3 Vb5 Vb7 Vb9 Vb12 Vb14 C0 D0 C1 D1 C2 D2 C3 D3 C4 D4 C5 D5 C6 D6 WB
  have Vb1 := mb1_
  have Vb3 := mb3_
  have Vb5 := mb5_
  have Vb7 := mb7_
  have Vb9 := mb9_
  have Vb12 := mb12_
  have Vb14 := mb14_
  have C0 := c0_; have D0 := d0_
  have C1 := c1_; have D1 := d1_
  have C2 := c2_; have D2 := d2_
  have C3 := c3_; have D3 := d3_
  have C4 := c4_; have D4 := d4_
  have C5 := c5_; have D5 := d5_
  have C6 := c6_; have D6 := d6_
  have WB := w_
  clear mb1_ mb3_ mb5_ mb7_ mb9_ mb12_ mb14_ c0_ d0_ c1_ d1_ c2_ d2_ c3_ d3_ c4_ d4_ c5_ d5_ c6_ d6_ w_
  have C8 := am (Kd.R_reads' h0).2.2; have D8 := am (Kd.R_reads' h1).2.2; have L8 := (Kd.R_reads' h0).2.1
  simp only [List.length_nil] at D8
  clear h0 h1 hb
  go_wp2_with fail
  generalize hX : World.alloc W8 _ = X8
  have n_ := am (show X8.heap[W8.heap.size]? = some (.cells #[.slice A8 a0.length c8, .slice B8 0 d8, .int .i64 0, .int .i64 0, .int .i64 0] 56 (0, 0)) by rw [← hX]; exact heap_alloc_new W8 _)
  have hb : Below W8.heap.size W8 X8 := by rw [← hX]; exact below_alloc (Below.refl _ _) _
  clear hX
  have mb1_ := am (blk_same Vb1.out hb)
  have mb3_ := am (blk_same Vb3.out hb)
  have mb5_ := am (blk_same Vb5.out hb)
  have mb7_ := am (blk_same Vb7.out hb)
  have mb9_ := am (blk_same Vb9.out hb)
  have mb12_ := am (blk_same Vb12.out hb)
  have mb14_ := am (blk_same Vb14.out hb)
  have c0_ := am (Kd.C_below C0.out hb); have d0_ := am (Kd.C_below D0.out hb)
  have c1_ := am (Kd.C_below C1.out hb); have d1_ := am (Kd.C_below D1.out hb)
  have c2_ := am (Kd.C_below C2.out hb); have d2_ := am (Kd.C_below D2.out hb)
  have c3_ := am (Kd.C_below C3.out hb); have d3_ := am (Kd.C_below D3.out hb)
  have c4_ := am (Kd.C_below C4.out hb); have d4_ := am (Kd.C_below D4.out hb)
  have c5_ := am (Kd.C_below C5.out hb); have d5_ := am (Kd.C_below D5.out hb)
  have c6_ := am (Kd.C_below C6.out hb); have d6_ := am (Kd.C_below D6.out hb)
  have c8_ := am (Kd.C_below C8.out hb); have d8_ := am (Kd.C_below D8.out hb)
  have w_ := am (below_step WB.out hb)
  clear Vb1 Vb3 Vb5 Vb7 Vb9 Vb12 Vb14 C0 D0 C1 D1 C2 D2 C3 D3 C4 D4 C5 D5 C6 D6 C8 D8 WB
  have Vb1 := mb1_
  have Vb3 := mb3_
  have Vb5 := mb5_
  have Vb7 := mb7_
  have Vb9 := mb9_
  have Vb12 := mb12_
  have Vb14 := mb14_
  have C0 := c0_; have D0 := d0_
  have C1 := c1_; have D1 := d1_
  have C2 := c2_; have D2 := d2_
  have C3 := c3_; have D3 := d3_
  have C4 := c4_; have D4 := d4_
  have C5 := c5_; have D5 := d5_
  have C6 := c6_; have D6 := d6_
  have C8 := c8_; have D8 := d8_
  have WB := w_
  clear mb1_ mb3_ mb5_ mb7_ mb9_ mb12_ mb14_ c0_ d0_ c1_ d1_ c2_ d2_ c3_ d3_ c4_ d4_ c5_ d5_ c6_ d6_ c8_ d8_ w_
  have Vb19 := n_; clear n_ hb
  refine aw10_r (Q := _) W5.heap.size _ (by exact fun c a m v w h => h) Vb12.out C5.out L5 D5.out e9 ?_
  intro g22 v73 v74 v75 v76 v77 v78 v79 W10 hb
  have mb1_ := am (blk_same Vb1.out hb)
  have mb3_ := am (blk_same Vb3.out hb)
  have mb5_ := am (blk_same Vb5.out hb)
  have mb7_ := am (blk_same Vb7.out hb)
  have mb9_ := am (blk_same Vb9.out hb)
  have mb12_ := am (blk_same Vb12.out hb)
  have mb14_ := am (blk_same Vb14.out hb)
  have mb19_ := am (blk_same Vb19.out hb)
  have c0_ := am (Kd.C_below C0.out hb); have d0_ := am (Kd.C_below D0.out hb)
  have c1_ := am (Kd.C_below C1.out hb); have d1_ := am (Kd.C_below D1.out hb)
  have c2_ := am (Kd.C_below C2.out hb); have d2_ := am (Kd.C_below D2.out hb)
  have c3_ := am (Kd.C_below C3.out hb); have d3_ := am (Kd.C_below D3.out hb)
  have c4_ := am (Kd.C_below C4.out hb); have d4_ := am (Kd.C_below D4.out hb)
  have c5_ := am (Kd.C_below C5.out hb); have d5_ := am (Kd.C_below D5.out hb)
  have c6_ := am (Kd.C_below C6.out hb); have d6_ := am (Kd.C_below D6.out hb)
  have c8_ := am (Kd.C_below C8.out hb); have d8_ := am (Kd.C_below D8.out hb)
  have w_ := am (below_step WB.out hb)
  clear Vb1 Vb3 Vb5 Vb7 Vb9 Vb12 Vb14 Vb19 C0 D0 C1 D1 C2 D2 C3 D3 C4 D4 C5 D5 C6 D6 C8 D8 WB
  have Vb1 := mb1_
  have Vb3 := mb3_
  have Vb5 := mb5_
  have Vb7 := mb7_
  have Vb9 := mb9_
  have Vb12 := mb12_
  have Vb14 := mb14_
  have Vb19 := mb19_
  have C0 := c0_; have D0 := d0_
  have C1 := c1_; have D1 := d1_
  have C2 := c2_; have D2 := d2_
  have C3 := c3_; have D3 := d3_
  have C4 := c4_; have D4 := d4_
  have C5 := c5_; have D5 := d5_
  have C6 := c6_; have D6 := d6_
  have C8 := c8_; have D8 := d8_
  have WB := w_
  clear mb1_ mb3_ mb5_ mb7_ mb9_ mb12_ mb14_ mb19_ c0_ d0_ c1_ d1_ c2_ d2_ c3_ d3_ c4_ d4_ c5_ d5_ c6_ d6_ c8_ d8_ w_
  clear hb
  have kb3_0 := (blk_cell Vb3.out 0).trans rfl
  have kb3_1 := (blk_cell Vb3.out 1).trans rfl
  have kb3_2 := (blk_cell Vb3.out 2).trans rfl
  have kb3_3 := (blk_cell Vb3.out 3).trans rfl
  have kb3_4 := (blk_cell Vb3.out 4).trans rfl
  have kb9_0 := (blk_cell Vb9.out 0).trans rfl
  have kb9_1 := (blk_cell Vb9.out 1).trans rfl
  have kb9_2 := (blk_cell Vb9.out 2).trans rfl
  have kb9_3 := (blk_cell Vb9.out 3).trans rfl
  have kb9_4 := (blk_cell Vb9.out 4).trans rfl
  have kb12_0 := (blk_cell Vb12.out 0).trans rfl
  have kb12_1 := (blk_cell Vb12.out 1).trans rfl
  have kb12_2 := (blk_cell Vb12.out 2).trans rfl
  have kb12_3 := (blk_cell Vb12.out 3).trans rfl
  have kb12_4 := (blk_cell Vb12.out 4).trans rfl
  clear Vb1 Vb5 Vb7 Vb14 Vb19
  go_wp2_with fail
  refine (vault_Room.calls _ _ a1 _ _ [] 0 0 0 64 _ C1.out L1 D1.out (Nat.zero_le _) e10).mono ?_
  rintro e W11 ⟨rfl, hb⟩
  clear kb3_0 kb3_1 kb3_2 kb3_3 kb3_4 kb9_0 kb9_1 kb9_2 kb9_3 kb9_4 kb12_0 kb12_1 kb12_2 kb12_3 kb12_4
  have mb3_ := am (blk_same Vb3.out hb)
  have mb9_ := am (blk_same Vb9.out hb)
  have mb12_ := am (blk_same Vb12.out hb)
  have c0_ := am (Kd.C_below C0.out hb); have d0_ := am (Kd.C_below D0.out hb)
  have c1_ := am (Kd.C_below C1.out hb); have d1_ := am (Kd.C_below D1.out hb)
  have c2_ := am (Kd.C_below C2.out hb); have d2_ := am (Kd.C_below D2.out hb)
  have c3_ := am (Kd.C_below C3.out hb); have d3_ := am (Kd.C_below D3.out hb)
  have c4_ := am (Kd.C_below C4.out hb); have d4_ := am (Kd.C_below D4.out hb)
  have c5_ := am (Kd.C_below C5.out hb); have d5_ := am (Kd.C_below D5.out hb)
  have c6_ := am (Kd.C_below C6.out hb); have d6_ := am (Kd.C_below D6.out hb)
  have c8_ := am (Kd.C_below C8.out hb); have d8_ := am (Kd.C_below D8.out hb)
  have w_ := am (below_step WB.out hb)
  clear Vb3 Vb9 Vb12 C0 D0 C1 D1 C2 D2 C3 D3 C4 D4 C5 D5 C6 D6 C8 D8 WB
  have Vb3 := mb3_
  have Vb9 := mb9_
  have Vb12 := mb12_
  have C0 := c0_; have D0 := d0_
  have C1 := c1_; have D1 := d1_
  have C2 := c2_; have D2 := d2_
  have C3 := c3_; have D3 := d3_
  have C4 := c4_; have D4 := d4_
  have C5 := c5_; have D5 := d5_
  have C6 := c6_; have D6 := d6_
  have C8 := c8_; have D8 := d8_
  have WB := w_
  clear mb3_ mb9_ mb12_ c0_ d0_ c1_ d1_ c2_ d2_ c3_ d3_ c4_ d4_ c5_ d5_ c6_ d6_ c8_ d8_ w_
  clear hb
  have kb3_0 := (blk_cell Vb3.out 0).trans rfl
  have kb3_1 := (blk_cell Vb3.out 1).trans rfl
  have kb3_2 := (blk_cell Vb3.out 2).trans rfl
  have kb3_3 := (blk_cell Vb3.out 3).trans rfl
  have kb3_4 := (blk_cell Vb3.out 4).trans rfl
  have kb9_0 := (blk_cell Vb9.out 0).trans rfl
  have kb9_1 := (blk_cell Vb9.out 1).trans rfl
  have kb9_2 := (blk_cell Vb9.out 2).trans rfl
  have kb9_3 := (blk_cell Vb9.out 3).trans rfl
  have kb9_4 := (blk_cell Vb9.out 4).trans rfl
  have kb12_0 := (blk_cell Vb12.out 0).trans rfl
  have kb12_1 := (blk_cell Vb12.out 1).trans rfl
  have kb12_2 := (blk_cell Vb12.out 2).trans rfl
  have kb12_3 := (blk_cell Vb12.out 3).trans rfl
  have kb12_4 := (blk_cell Vb12.out 4).trans rfl
  go_wp2_with fail
  refine (vault_Right.calls _ _ a5 _ _ [] 3 1 5 true _ C5.out L5 D5.out (Nat.zero_le _) e11).mono ?_
  rintro e W12 ⟨rfl, hb⟩
  have w_ := below_step WB.out hb
  go_wp2
  go_ret
  exact ⟨rfl, w_⟩
def aw0 : List ByteArray := [blank, blank, blank, blank]
def aw1 : List ByteArray := [headP 0 0 0, blank, blank, blank]
def awkA : ByteArray := ⟨#[115, 111, 109, 101]⟩ ++ blank.extract 4 64
def awkB : ByteArray := ⟨#[115, 111, 109, 101, 32, 116, 101, 120, 116]⟩ ++ blank.extract 9 64
def awkC : ByteArray := ⟨#[111, 116, 104, 101, 114]⟩ ++ blank.extract 5 64
def aw2 : List ByteArray := [headP 0 0 0, headP 1 0 4, awkA, blank]
def aw3 : List ByteArray := [headP 2 0 9, headP 1 0 4, awkB, blank]
def aw5 : List ByteArray := [headP 2 0 9, headP 3 1 5, awkB, awkC]
theorem awe0 : columbariumref14_New.f 600 4 = some (aw0, [], 0) := by kernel_rfl
theorem awe1 : vault_Format.f 100 aw0 [] = some (aw1, [], 0, 0, 0, 0) := by kernel_rfl
theorem awe2 : vault_Keep.f aw1 [] 0 0 0 ⟨#[115, 111, 109, 101]⟩ false = some (aw2, [], 1, 0, 4, 0) := by kernel_rfl
theorem awe3 : vault_Keep.f aw2 [] 1 0 4 ⟨#[32, 116, 101, 120, 116]⟩ false = some (aw3, [], 2, 0, 9, 0) := by kernel_rfl
theorem awe4 : vault_Open.f aw3 [] = some (aw3, [], 2, 0, 9, ⟨#[115, 111, 109, 101, 32, 116, 101, 120, 116]⟩, 0) := by kernel_rfl
theorem awe5 : vault_Keep.f aw3 [] 2 0 9 ⟨#[111, 116, 104, 101, 114]⟩ true = some (aw5, [], 3, 1, 5, 0) := by kernel_rfl
theorem awe6 : vault_Open.f aw5 [] = some (aw5, [], 3, 1, 5, ⟨#[111, 116, 104, 101, 114]⟩, 0) := by kernel_rfl
def awl : List S24 := movesN aw1 0 0 0 ⟨#[97]⟩ false
theorem awe7 : vault_Moves.f aw1 [] 0 0 0 ⟨#[97]⟩ false = some (awl, 0) := by kernel_rfl
theorem awe7l : awl.length = 5 := by kernel_rfl
theorem awe8 : vault_Open.f aw0 [] = some (aw0, [], 0, 0, 0, ⟨#[]⟩, 25) := by kernel_rfl
theorem awe9 : vault_Keep.f aw5 [] 3 1 5 (strOfNums (List.replicate 65 0)) true = some (aw5, [], 3, 1, 5, 2) := by kernel_rfl
theorem awe10 : vault_Room.f aw1 [] 0 0 0 = some 64 := by kernel_rfl
theorem awe11 : vault_Right.f aw5 [] 3 1 5 = some true := by kernel_rfl
def columbariumlaw15_awake.f : Option Bool := some true
theorem columbariumlaw15_awake.calls (r : Bool) (w : World) (h : columbariumlaw15_awake.f = some r) : Calls Try.prog 28 #[] w fun e w' => e = .returned (.bool r) ∧ Below w.heap.size w w' := by
  obtain rfl := Option.some.inj h
  exact awake_walk awe0 awe1 awe2 awe3 awe4 awe5 awe6 awe7 awe7l awe8 awe9 awe10 awe11 w
end Go.Proofs.Ytcfinlmocgbnbaa.Pr
end
