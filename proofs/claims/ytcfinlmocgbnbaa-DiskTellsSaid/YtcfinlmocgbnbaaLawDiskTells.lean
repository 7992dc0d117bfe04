/-
  DiskTells: the given row, out of the walk of the law and its plain law: the law returns true for every input, and each argument reads as it read. No condition.
-/
import Derived.Test.YtcfinlmocgbnbaaRows
import Derived.Test.YtcfinlmocgbnbaaDTells
import Derived.Lib.SmallJoins
import Derived.Test.YtcfinlmocgbnbaaOpen67
import Derived.WalkKit
import Derived.ProofKit
import Derived.OpenShut
import Derived.ShutString
import Derived.ChangeOld
import Derived.Below
import Derived.SizedLaws
import Derived.Test.YtcfinlmocgbnbaaWSized
namespace Go.Proofs.Ytcfinlmocgbnbaa.diskTells
open Go.ChangeShapes Go.WideShapes Go.ChangeAt Go.RowKit
open Go.ChangeMaps (open_string shut_string)
set_option linter.unusedVariables false
theorem own : ownKnob Try.prog.godebug = none := by kernel_rfl
theorem laidOut : laidOutB Try.prog = true := by kernel_rfl
def IsRow (k : IntKind) (w : World) (a : Option Addr) (len cap : Nat) (zs : List Int) : Prop :=
  (a = none ∧ len = 0 ∧ cap = 0 ∧ zs = []) ∨
  ∃ x, a = some x ∧ len ≤ cap ∧ cap ≤ maxLen ∧ zs.length = cap ∧ (∀ i, i < zs.length → w.cell? (x.add i) = some (.int k (zs.getD i 0))) ∧ ∀ n ∈ zs, (Lit.int k n).wf = true
theorem walk (a0 : Int) (a1 : Option Addr) (cap1 : Nat) (l1 : List Pr.S67) (a2 : Option Addr) (cap2 : Nat) (l2 : List Pr.S67) (s0 : Bool) (s1 : Int) (s2 : ByteArray) (a4 : Option Addr) (len4 cap4 : Nat) (z4 : List Int) (a5 : Int) (w : World) (w0 : (Lit.int .i64 a0).wf = true) (r1 : Go.Proofs.YtcfinlmocgbnbaaW.PrintWords.Kd.C Pr.k67 w a1 l1.length l1) (c1 : l1.length ≤ cap1) (m1 : l1.length ≤ maxLen) (w1 : Pr.wf67 l1) (r2 : Go.Proofs.YtcfinlmocgbnbaaW.PrintWords.Kd.C Pr.k67 w a2 l2.length l2) (c2 : l2.length ≤ cap2) (m2 : l2.length ≤ maxLen) (w2 : Pr.wf67 l2) (w4 : IsRow .i64 w a4 len4 cap4 z4) (w5 : (Lit.int .i64 a5).wf = true) :
    Calls Try.prog 3 #[.int .i64 a0, .slice a1 l1.length cap1, .slice a2 l2.length cap2, .agg #[.bool s0, .int .i64 s1, .string s2], .slice a4 len4 cap4, .int .i64 a5] w fun e w' => e = .returned (.bool true) ∧ Below w.heap.size w w' := by
  obtain ⟨l4, rfl, hr4, hm4, hw4, hc4⟩ := Go.Proofs.YtcfinlmocgbnbaaW.PrintWords.ReadsInt.ofRowC w4
  have i0 := Pr.i64_of w0
  have i5 := Pr.i64_of w5
  obtain ⟨pk0, hp0, h0, h6⟩ := Pr.pick_eq i0 (n := 6) (by omega) (by omega)
  obtain ⟨m, hk⟩ : ∃ m : Nat, 1 + pk0 = (m : Int) := ⟨(1 + pk0).toNat, by omega⟩
  obtain ⟨pk2, hp2, _, _⟩ := Pr.pick_eq i5 (n := 2) (by omega) (by omega)
  obtain ⟨pkn, hpn, _, _⟩ := Pr.pick_eq i5 (n := (m : Int)) (by omega) (by omega)
  obtain ⟨ml0, hm0, hl0, _⟩ := Pr.moves_eq (l := l1) (fun x hx => ⟨Pr.i64_of (w1 x hx).1, Pr.i64_of (w1 x hx).2.1, Pr.i64_of (w1 x hx).2.2⟩) (n := m) (by omega) (by omega) (k := 201) (by omega)
  obtain ⟨ml, hm2, hml, _⟩ := Pr.moves_eq (l := l2) (fun x hx => ⟨Pr.i64_of (w2 x hx).1, Pr.i64_of (w2 x hx).2.1, Pr.i64_of (w2 x hx).2.2⟩) (n := m) (by omega) (by omega) (k := 201) (by omega)
  obtain ⟨bs, hbs, _⟩ := Pr.bytes_eq i5 (k := 65) (by omega)
  have hlen := Pr.doB_len (Pr.newB (m : Int)).1 (Pr.newB (m : Int)).2.1 ml0
  have hn1 : (Pr.newB (m : Int)).1.length = m ∧ (Pr.newB (m : Int)).2.1.length = 0 := by
    unfold Pr.newB
    rw [if_pos (by omega)]
    simp
  obtain ⟨su, so, de, hd⟩ : ∃ su so de, Pr.doB (Pr.newB (m : Int)).1 (Pr.newB (m : Int)).2.1 ml0 = (su, so, de) := ⟨_, _, _, rfl⟩
  rw [hd] at hlen
  dsimp only at hlen
  exact Pr.dtells_calls a0 a5 l1 l2 ⟨s0, s1, s2⟩ l4 w r1 c1 r2 c2 (Go.Proofs.YtcfinlmocgbnbaaW.PrintWords.Kd.C_of_reads (d := (0 : Int)) (h1 := fun _ => rfl) hr4) hc4 hp0 h0 h6 hk 201 hm0 (by omega) hd (by omega) (by omega) (by omega) hp2 hpn 201 65 hm2 (by omega) hbs
set_option maxRecDepth 100000 in
theorem lifted (os : Os) (started : os.Started) (H : Type) (enc : TypeId × Value → H) :
    ReturnsInHanded {} Try.checked os 3 .any (Rows.diskTellsSpec.pre6 enc Try.prog Try.f3 Rows.diskTellsRow.domain false) (Rows.diskTellsSpec.post enc Try.prog Try.f3 false true false false) := by
  refine returnsInHanded_of_change_sized (C := Try.checked) own started (by kernel_rfl) Try.func3
    (ChangeSpec.witness6 (enc := enc) (C := Try.checked) false ⟨#[], #[.int .i64 0, .slice none 0 0, .slice none 0 0, .agg #[.bool false, .int .i64 0, .string ByteArray.empty], .slice none 0 0, .int .i64 0], []⟩ 8 (by kernel_rfl) (by kernel_rfl) (by kernel_rfl) (by kernel_rfl)) ?_
  intro W base args ds gs before hval0 hW hcnd hsz0 _
  have hsz : (DataW.weightsEach Try.prog (Try.f3.params.toList ++ Rows.diskTellsSpec.plain.varTypes Try.prog) (ds ++ gs)).all (· ≤ reachBytes) = true := hsz0
  have hval : ∀ (j : Nat) t v, Try.f3.params[j]? = some t → args[j]? = some v → Value.okWide Try.prog W .any base t v := hval0
  have hW' := hW
  obtain ⟨p, q, hA0, hV, rfl, hfz, hnd⟩ := hW
  have hA : DataW.TrodAll enc Try.prog W 0 (fun _ => true) true Try.f3.params.toList args.toList ds p := hA0
  rw [Try.params3] at hA hval hsz
  obtain ⟨v0, vs0, d0, ds0, p0, q0, hargs, rfl, rfl, h0, r0⟩ := trodAll_cons hA
  obtain ⟨v1, vs1, d1, ds1, p1, q1, rfl, rfl, rfl, h1, r1⟩ := trodAll_cons r0
  obtain ⟨v2, vs2, d2, ds2, p2, q2, rfl, rfl, rfl, h2, r2⟩ := trodAll_cons r1
  obtain ⟨v3, vs3, d3, ds3, p3, q3, rfl, rfl, rfl, h3, r3⟩ := trodAll_cons r2
  obtain ⟨v4, vs4, d4, ds4, p4, q4, rfl, rfl, rfl, h4, r4⟩ := trodAll_cons r3
  obtain ⟨v5, vs5, d5, ds5, p5, q5, rfl, rfl, rfl, h5, r5⟩ := trodAll_cons r4
  obtain ⟨rfl, rfl, rfl⟩ := trodAll_nil r5
  obtain rfl : args = #[v0, v1, v2, v3, v4, v5] := by cases args; simp_all
  obtain ⟨rfl, rfl⟩ := trodVars_none hV
  obtain ⟨a0, rfl, rfl, rfl, w0⟩ := open_int Try.underlying3 (hval 0 3 v0 rfl rfl) h0
  obtain ⟨a1, len1, cap1, rfl⟩ := okWide_slice Try.underlying22 (hval 1 22 v1 rfl rfl)
  have k1 := h1
  have lt1 : ∀ x ∈ p1, x.block < W.heap.size := by obtain ⟨m, hm⟩ := k1; exact DataW.trod_lt m _ _ _ hm
  obtain ⟨l1, rfl, e1, c1, m1, w1⟩ := Pr.open_rows67 h1
  obtain ⟨a2, len2, cap2, rfl⟩ := okWide_slice Try.underlying22 (hval 2 22 v2 rfl rfl)
  have k2 := h2
  have lt2 : ∀ x ∈ p2, x.block < W.heap.size := by obtain ⟨m, hm⟩ := k2; exact DataW.trod_lt m _ _ _ hm
  obtain ⟨l2, rfl, e2, c2, m2, w2⟩ := Pr.open_rows67 h2
  have k3 := h3
  have lt3 : ∀ x ∈ p3, x.block < W.heap.size := by obtain ⟨m, hm⟩ := k3; exact DataW.trod_lt m _ _ _ hm
  obtain ⟨s0, s1, s2, rfl⟩ : ∃ (s0 : Bool) (s1 : Int) (s2 : ByteArray), v3 = .agg #[.bool s0, .int .i64 s1, .string s2] := by
    obtain ⟨u0, u1, u2, y0, y1, y2, n, rfl, _, _, g0, g1, g2⟩ := Go.Joins.open_agg3 Try.underlying24 (by kernel_rfl) (by kernel_rfl) (hval 3 24 v3 rfl rfl) h3
    obtain ⟨s0, e0, _⟩ := DataW.trod_bool Try.underlying4 g0
    obtain ⟨s1, e1, _, _⟩ := DataW.trod_int Try.underlying3 g1
    obtain ⟨s2, e2, _, _⟩ := DataW.trod_string Try.underlying9 g2
    cases e0
    cases e1
    cases e2
    exact ⟨_, _, _, rfl⟩
  obtain ⟨a4, len4, cap4, rfl⟩ := okWide_slice Try.underlying25 (hval 4 25 v4 rfl rfl)
  have k4 := h4
  have lt4 : ∀ x ∈ p4, x.block < W.heap.size := by obtain ⟨m, hm⟩ := k4; exact DataW.trod_lt m _ _ _ hm
  obtain ⟨z4, w4⟩ : ∃ zs, IsRow .i64 W a4 len4 cap4 zs := by
    obtain ⟨fuel, hf⟩ := h4
    rcases open_ints Try.underlying25 Try.underlying3 (by kernel_rfl) hf with ⟨hcs, _⟩ | ⟨x, l, c, zs, hcs, _, hl, hm, hz, _, hcell, hwz⟩
    · simp [Value.cells] at hcs
      obtain ⟨rfl, rfl, rfl⟩ := hcs
      exact ⟨[], .inl ⟨rfl, rfl, rfl, rfl⟩⟩
    · simp [Value.cells] at hcs
      obtain ⟨rfl, rfl, rfl⟩ := hcs
      exact ⟨zs, .inr ⟨_, rfl, hl, hm, by simpa using hz, hcell, hwz⟩⟩
  obtain ⟨a5, rfl, rfl, rfl, w5⟩ := open_int Try.underlying3 (hval 5 3 v5 rfl rfl) h5
  clear hA0 hval0 hsz0 hsz
  refine (walk a0 a1 cap1 l1 a2 cap2 l2 s0 s1 s2 a4 len4 cap4 z4 a5 W w0 e1 c1 m1 w1 e2 c2 m2 w2 w4 w5).mono fun e W' ⟨he, bel⟩ => ?_
  subst he
  exact ⟨_, rfl, _, _, _, [], _, [], hW', trodAll_mk1 (shut_bool Try.underlying4 _), (trodAll_cons_mk (shut_int Try.underlying3 w0) (trodAll_cons_mk (Below.trod laidOut (by kernel_rfl) (of_decide_eq_true (by kernel_rfl)) k1 bel lt1) (trodAll_cons_mk (Below.trod laidOut (by kernel_rfl) (of_decide_eq_true (by kernel_rfl)) k2 bel lt2) (trodAll_cons_mk (Below.trod laidOut (by kernel_rfl) (of_decide_eq_true (by kernel_rfl)) k3 bel lt3) (trodAll_cons_mk (Below.trod laidOut (by kernel_rfl) (of_decide_eq_true (by kernel_rfl)) k4 bel lt4) (trodAll_cons_mk (shut_int Try.underlying3 w5) trodAll_mk0)))))), rfl, bel.frame _, fun h => by cases h⟩
theorem over : Rows.diskTellsRow.holds Try.pinned (OpenSpec.ofChange Rows.diskTellsSpec) :=
  OpenClaim.holds_of_wide 3 Try.f3 rfl rfl rfl rfl rfl rfl rfl ⟨rfl, rfl, rfl, rfl, rfl⟩ rfl rfl rfl rfl rfl (by kernel_rfl) Try.func3 (by kernel_rfl)
    (of_decide_eq_true (by kernel_rfl)) (by unfold Func.isWrapper; first | (rw [if_pos (by decide +kernel)]; kernel_rfl) | (rw [if_neg (by decide +kernel)]; exact ⟨rfl, rfl⟩))
    (fun os started H enc _ => lifted os started H enc)
theorem proved : Rows.DiskTellsSaid := over
#print axioms proved
end Go.Proofs.Ytcfinlmocgbnbaa.diskTells
namespace Go.Proofs.Ytcfinlmocgbnbaa
/-- The row, under a short name, for the claim. -/
theorem diskTells_holds : Rows.DiskTellsSaid := diskTells.proved
end Go.Proofs.Ytcfinlmocgbnbaa
