/-
  DigestLong: the given row and its card, out of the walk of the law: the law returns true for every input, and each argument reads as it read. No condition.
-/
import Derived.Test.YtajaobebcmlhaaaDoorCards
import Derived.Test.YtajaobebcmlhaaaDoorTie
import Derived.Test.YtajaobebcmlhaaaDoorLaid
import Derived.Test.YtajaobebcmlhaaaDoorLong
import Derived.WalkKit
import Derived.ProofKit
import Derived.OpenShut
import Derived.ShutString
import Derived.ChangeOld
import Derived.Below
import Derived.SizedLaws
import Derived.SevenTiedAt
namespace Go.Proofs.YtajaobebcmlhaaaDoor.digestLong
open Go.ChangeShapes Go.WideShapes Go.ChangeAt Go.RowKit
open Go.ChangeMaps (open_string shut_string)
open Go.Proofs.Sha
open Go.Proofs.YtajaobebcmlhaaaDoor.Pr (own tbl_of_laid laidWorld)
set_option linter.unusedVariables false
set_option linter.unusedSimpArgs false
set_option maxRecDepth 100000
theorem laidOut : laidOutB Tryd.prog = true := by kernel_rfl
theorem u_ex (z : Int) (h : (Lit.int .u32 z).wf = true) : ∃ x : U, z = u x := by
  have hz : 0 ≤ z ∧ z < 4294967296 := by
    simp only [Lit.wf, Bool.and_eq_true, decide_eq_true_eq] at h
    have e0 : IntKind.u32.min = 0 := rfl
    have e1 : IntKind.u32.max = 4294967295 := rfl
    omega
  exact ⟨BitVec.ofInt 32 z, (u_of z hz.1 hz.2).symm⟩
theorem open_S8 {H : Type} {enc : TypeId × Value → H} {W : World} {base : Nat} {sp : Nat → Bool} {held : Bool} {fuel : Nat} {cs : Array Value} {d : DataW H} {p : List MemPlace} (hl : cs.size = 8)
    (h : DataW.trod enc Tryd.prog W base sp held fuel 23 cs.toList = some (d, p)) : ∃ x : S8, cs = Pr.s8c x := by
  have hc : Tryd.prog.cellsOf 22 = 1 := by kernel_rfl
  have key : ∀ i, i < 8 → ∃ x : U, cs[i]? = some (.int .u32 (u x)) := by
    intro i hi
    cases fuel with
    | zero => simp [DataW.trod] at h
    | succ fuel =>
      simp only [DataW.trod, Tryd.underlying23] at h
      split at h
      · obtain ⟨xs, hm, hx⟩ := Option.map_eq_some_iff.1 h
        obtain ⟨b, hb, hf⟩   := Lib.mapM_at hm i i (by simp [hi])
        rw [hc] at hf
        obtain ⟨z, hcz, hd, hw⟩ := DataW.trod_int Tryd.underlying22 hf
        obtain ⟨x, rfl⟩ := u_ex z hw
        refine ⟨x, ?_⟩
        have := congrArg (·[0]?) hcz
        simpa [List.getElem?_take, List.getElem?_drop] using this
      · cases h
  obtain ⟨a, ha⟩ := key 0 (by omega)
  obtain ⟨b, hb⟩ := key 1 (by omega)
  obtain ⟨c, hc⟩ := key 2 (by omega)
  obtain ⟨d, hd⟩ := key 3 (by omega)
  obtain ⟨e, he⟩ := key 4 (by omega)
  obtain ⟨f, hf⟩ := key 5 (by omega)
  obtain ⟨g, hg⟩ := key 6 (by omega)
  obtain ⟨k, hk⟩ := key 7 (by omega)
  refine ⟨⟨a, b, c, d, e, f, g, k⟩, ?_⟩
  apply Array.ext_getElem?
  intro i
  match i with
  | 0 => exact ha
  | 1 => exact hb
  | 2 => exact hc
  | 3 => exact hd
  | 4 => exact he
  | 5 => exact hf
  | 6 => exact hg
  | 7 => exact hk
  | i + 8 => rw [Array.getElem?_eq_none (by omega), Array.getElem?_eq_none (by simp [Pr.s8c])]
theorem laid_met (os : Os) (args : Array Value) : laidMetH Tryd.prog Rows.digestLongRow.laid ((laidWorld os).forCall (fun _ _ => 0) ⟨#[], args, []⟩).memory := by
  show laidMet Tryd.prog [("columbarium/digest.round", Rows.laid_columbarium_digest_round)] _
  exact (LaidIn.of_run [0] 8 (by kernel_rfl) (by kernel_rfl) (by kernel_rfl) (by kernel_rfl)).met
theorem lifted (os : Os) (started : os.Started) (H : Type) (enc : TypeId × Value → H) :
    ReturnsInHanded {} Tryd.checked os 5 .any (fun w args => (Rows.digestLongSpec.pre enc Tryd.prog Tryd.f5 [] false w args ∧ laidMetH Tryd.prog Rows.digestLongRow.laid w) ∧ sizedMet enc Tryd.prog Tryd.f5 (OpenSpec.ofChange Rows.digestLongSpec) false w args)
      (Rows.digestLongSpec.post enc Tryd.prog Tryd.f5 false true false false) := by
  refine returnsInHanded_of_change_and (C := Tryd.checked) (X := fun w _ => laidMetH Tryd.prog Rows.digestLongRow.laid w) (fun _ _ _ hh h => h.of_heap hh) own started (by kernel_rfl) Tryd.func5
    (ChangeSpec.witness_at (enc := enc) (C := Tryd.checked) (os := os) (X := fun w _ => laidMetH Tryd.prog Rows.digestLongRow.laid w) false (laidWorld os) #[.int .i64 0, .int .i64 0, .agg #[.int .u32 0, .int .u32 0, .int .u32 0, .int .u32 0, .int .u32 0, .int .u32 0, .int .u32 0, .int .u32 0]] 8 rfl (by kernel_rfl) (by kernel_rfl) (by kernel_rfl) (by kernel_rfl) (by kernel_rfl) (laid_met os _)) ?_
  intro W base args ds gs before hval0 hW _ _ hL _
  have hval : ∀ (j : Nat) t v, Tryd.f5.params[j]? = some t → args[j]? = some v → Value.okWide Tryd.prog W .any base t v := hval0
  have hW' := hW
  obtain ⟨p, q, hA0, hV, rfl, hfz, hnd⟩ := hW
  have hA : DataW.TrodAll enc Tryd.prog W 0 (fun _ => true) true Tryd.f5.params.toList args.toList ds p := hA0
  rw [Tryd.params5] at hA hval
  obtain ⟨v0, vs0, d0, ds0, p0, q0, hargs, rfl, rfl, h0, r0⟩ := trodAll_cons hA
  obtain ⟨v1, vs1, d1, ds1, p1, q1, rfl, rfl, rfl, h1, r1⟩ := trodAll_cons r0
  obtain ⟨v2, vs2, d2, ds2, p2, q2, rfl, rfl, rfl, h2, r2⟩ := trodAll_cons r1
  obtain ⟨rfl, rfl, rfl⟩ := trodAll_nil r2
  obtain rfl : args = #[v0, v1, v2] := by cases args; simp_all
  obtain ⟨rfl, rfl⟩ := trodVars_none hV
  obtain ⟨a0, rfl, rfl, rfl, w0⟩ := open_int Tryd.underlying3 (hval 0 3 v0 rfl rfl) h0
  obtain ⟨a1, rfl, rfl, rfl, w1⟩ := open_int Tryd.underlying3 (hval 1 3 v1 rfl rfl) h1
  have k2 := h2
  have lt2 : ∀ x ∈ p2, x.block < W.heap.size := by obtain ⟨m, hm⟩ := k2; exact DataW.trod_lt m _ _ _ hm
  obtain ⟨x, rfl⟩ : ∃ x : S8, v2 = .agg (Pr.s8c x) := by
    have ho := hval 2 23 v2 rfl rfl
    simp only [Value.okWide, Tryd.underlying23] at ho
    obtain ⟨cs, hv, hn, _⟩ := ho
    subst hv
    obtain ⟨fuel, hf⟩ := h2
    have h8 : Tryd.prog.cellsOf 23 = 8 := by kernel_rfl
    obtain ⟨x, rfl⟩ := open_S8 (cs := cs) (by rw [hn]; exact h8) hf
    exact ⟨x, rfl⟩
  clear hA0 hval0
  have i0 : IntKind.i64.min = -9223372036854775808 := rfl
  have i1 : IntKind.i64.max = 9223372036854775807 := rfl
  have y0 := w0
  have y1 := w1
  simp only [Lit.wf, Bool.and_eq_true, decide_eq_true_eq] at y0 y1
  refine (Pr.long_calls a0 a1 x W (tbl_of_laid hL) (by omega) (by omega) (by omega) (by omega)).mono fun e W' ⟨he, bel⟩ => ?_
  subst he
  exact ⟨_, rfl, _, _, _, [], _, [], hW', trodAll_mk1 (shut_bool Tryd.underlying4 _), (trodAll_cons_mk (shut_int Tryd.underlying3 w0) (trodAll_cons_mk (shut_int Tryd.underlying3 w1) (trodAll_cons_mk (Below.trod laidOut (by kernel_rfl) (of_decide_eq_true (by kernel_rfl)) k2 bel lt2) trodAll_mk0))), rfl, bel.frame _, fun h => by cases h⟩
theorem digestLong_holds : Rows.DigestLongSaid :=
  OpenClaim.holds_of_wide 5 Tryd.f5 rfl rfl rfl rfl rfl rfl rfl ⟨rfl, rfl, rfl, rfl, rfl⟩ rfl rfl rfl rfl rfl (by kernel_rfl) Tryd.func5 (by kernel_rfl)
    (of_decide_eq_true (by kernel_rfl)) (by unfold Func.isWrapper; rw [if_neg (of_decide_eq_false (by kernel_rfl))]; exact ⟨rfl, rfl⟩)
    (fun os started H enc _ => lifted os started H enc)
end Go.Proofs.YtajaobebcmlhaaaDoor.digestLong
namespace Go.Proofs.YtajaobebcmlhaaaDoor
set_option maxRecDepth 100000
theorem digestLongCard_holds : Rows.DigestLongCardSaid :=
  Claim7.holds_tied_plain_at .later [] [.data] true (true, "3fd31a6130fcf1c6d61bc8f36256b06066dd979dca5a07b9946fbf24157dc7e4") false
    digestLong.digestLong_holds (fun _ h => by cases h) (by kernel_rfl) (fun _ h => by cases h) digestLong_row_tie rfl ⟨rfl, rfl⟩ (by kernel_rfl) rfl
    (fun f fn hf hfn => by
      obtain rfl : f = 5 := Option.some.inj ((show Tryd.prog.funcNamed "columbarium/columbariumlaw01.DigestLong" = some 5 by kernel_rfl).symm.trans hf) |>.symm
      obtain rfl : fn = Tryd.f5 := (Option.some.inj (Tryd.func5.symm.trans hfn)).symm
      exact ⟨by kernel_rfl, fun j t ht => by
        rw [Tryd.params5] at ht
        have h3 : t = 3 ∨ t = 23 := by
          rcases j with _ | _ | _ | j
          · exact .inl (by simpa using ht.symm)
          · exact .inl (by simpa using ht.symm)
          · exact .inr (by simpa using ht.symm)
          · simp at ht
        rcases h3 with rfl | rfl
        · exact (show Tryd.prog.wantsStandIn 3 = false by kernel_rfl)
        · exact (show Tryd.prog.wantsStandIn 23 = false by kernel_rfl)⟩)
    (by kernel_rfl)
end Go.Proofs.YtajaobebcmlhaaaDoor
