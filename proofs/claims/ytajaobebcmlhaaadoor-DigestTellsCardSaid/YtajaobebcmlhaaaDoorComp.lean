/-
  digest.Compress: what a block makes of eight words. Condition: the words of the rounds lie where the program has them.
-/
import Derived.Test.YtajaobebcmlhaaaDoorSched
import Derived.Test.YtajaobebcmlhaaaDoorXRange2
import Derived.Laws.CopyRow
import Derived.Test.YtajaobebcmlhaaaDoorXQuiet
namespace Go.Proofs.YtajaobebcmlhaaaDoor.Pr
open Go.RowKit Go.Shelf Go.Proofs.YtajaobebcmlhaaaDoor.XB Go.Proofs.Sha Go.Proofs.YtajaobebcmlhaaaDoorW.PrintWords
attribute [local go_sem] Oper.semAt_some
set_option linter.unusedVariables false
/-- Eight words, as cells. -/
def s8c (v : S8) : Array Value := #[.int .u32 (u v.a), .int .u32 (u v.b), .int .u32 (u v.c), .int .u32 (u v.d), .int .u32 (u v.e), .int .u32 (u v.f), .int .u32 (u v.g), .int .u32 (u v.h)]
/-- The words of the rounds lie where the program has them. -/
def Tbl (w : World) : Prop := 0 < w.heap.size ∧ ∀ i, i < 64 → w.cell? ⟨0, i, none⟩ = some (.int .u32 (u (K i)))
theorem Tbl.below {w w1 : World} (h : Tbl w) (hb : Below w.heap.size w w1) : Tbl w1 := ⟨Nat.lt_of_lt_of_le h.1 hb.size, fun i hi => (hb.cell (p := ⟨0, i, none⟩) h.1).trans (h.2 i hi)⟩
theorem schedule_calls (b : ByteArray) (w : World) :
    Calls Tryd.prog 39 #[.string b] w fun e w' => e = .returned (.func (.func 58) #[] #[.pointer (some ⟨w.heap.size, 0, none⟩)]) ∧ w' = w.alloc (.cells #[.string b] 9) := by
  go_enter Tryd.func39, Tryd.ntmps39
  go_wp2
  go_ret
  exact ⟨rfl, rfl⟩
theorem sstart_own {n : Nat} (s : ByteArray) (B bb : Nat) : OwnW n (SStart s B bb) := fun W W' row h hg hr => ⟨Nat.le_trans h.1 hg.size, h.2.1, (OwnW.blk bb _ _ _) W W' row h.2.2 hg hr⟩
theorem kp_trans {B bb : Nat} {X Y Z : World} (h : Kp B bb X Y) (k : Kp B bb Y Z) : Kp B bb X Z := fun g cs t fr hg hb => k g cs t fr hg (h g cs t fr hg hb)
theorem kp_putObj {B bb : Nat} (W : World) (l : Nat) (o o' : Obj) (_ : B ≤ l) (hl : W.heap[l]? = some o) (ho : o.isCells = false) : Kp B bb W (W.putObj l o') := fun g cs t fr _ hb =>
  (World.putObj_heap_other (by rintro rfl; rw [hl] at hb; cases hb; cases ho)).trans hb
theorem kp_gb {B bb g : Nat} {X Y : World} (h : Gb g X Y) (h1 : g < B) (h2 : bb ≠ g) : Kp B bb X Y := fun j cs t fr hj hb => gb_same h hb (by rcases hj with hj | hj <;> omega)
theorem tch_blk {B g : Nat} {o : Obj} {X Y : World} (h : Tch B X Y) (hg : g < B) (hb : X.heap[g]? = some o) : Y.heap[g]? = some o := (h.1.block g hg).trans hb
theorem copy_src {v : S8} {g : Nat} {W : World} (hg : W.heap[g]? = some (.cells (s8c v) 23 (0, 0))) : ∀ j x, ([.int .u32 (u v.a), .int .u32 (u v.b), .int .u32 (u v.c), .int .u32 (u v.d), .int .u32 (u v.e), .int .u32 (u v.f), .int .u32 (u v.g)] : List Value)[j]? = some x → W.cell? (Addr.add ⟨g, 0, none⟩ j) = some x := fun j x h => by
  rw [add_plain]
  refine (blk_cell hg _).trans ?_
  match j, h with
  | 0, h => exact h
  | 1, h => exact h
  | 2, h => exact h
  | 3, h => exact h
  | 4, h => exact h
  | 5, h => exact h
  | 6, h => exact h
  | j + 7, h => simp at h
theorem copy_one (v : S8) : ∀ x ∈ ([.int .u32 (u v.a), .int .u32 (u v.b), .int .u32 (u v.c), .int .u32 (u v.d), .int .u32 (u v.e), .int .u32 (u v.f), .int .u32 (u v.g)] : List Value), x.oneCell' = true := by
  intro x hx
  simp only [List.mem_cons, List.not_mem_nil, or_false] at hx
  rcases hx with rfl | rfl | rfl | rfl | rfl | rfl | rfl <;> rfl
theorem u_mod (x y : U) : (u x + u y) % 4294967296 = u (x + y) := by rw [← u_add, IntKind.wrap_u32']
/-- Eight words, told by their places. -/
def vec8 (f : Nat → U) : Array Value := #[.int .u32 (u (f 0)), .int .u32 (u (f 1)), .int .u32 (u (f 2)), .int .u32 (u (f 3)), .int .u32 (u (f 4)), .int .u32 (u (f 5)), .int .u32 (u (f 6)), .int .u32 (u (f 7))]
def s8f (v : S8) : Nat → U | 0 => v.a | 1 => v.b | 2 => v.c | 3 => v.d | 4 => v.e | 5 => v.f | 6 => v.g | _ => v.h
theorem s8c_vec (v : S8) : s8c v = vec8 (s8f v) := rfl
theorem vec8_get (f : Nat → U) (j : Nat) (h : j < 8) : (vec8 f)[j]? = some (.int .u32 (u (f j))) := by
  match j, h with
  | 0, _ => rfl
  | 1, _ => rfl
  | 2, _ => rfl
  | 3, _ => rfl
  | 4, _ => rfl
  | 5, _ => rfl
  | 6, _ => rfl
  | 7, _ => rfl
  | j + 8, h => exact absurd h (by omega)
theorem vec8_set (f : Nat → U) (j : Nat) (x : U) (h : j < 8) : (vec8 f).setIfInBounds j (.int .u32 (u x)) = vec8 (fun i => if i = j then x else f i) := by
  match j, h with
  | 0, _ => rfl
  | 1, _ => rfl
  | 2, _ => rfl
  | 3, _ => rfl
  | 4, _ => rfl
  | 5, _ => rfl
  | 6, _ => rfl
  | 7, _ => rfl
  | j + 8, h => exact absurd h (by omega)
theorem vec8_congr {f g : Nat → U} (h : ∀ i, i < 8 → f i = g i) : vec8 f = vec8 g := by
  simp only [vec8, h 0 (by omega), h 1 (by omega), h 2 (by omega), h 3 (by omega), h 4 (by omega), h 5 (by omega), h 6 (by omega), h 7 (by omega)]
theorem s8f_add (x y : S8) (i : Nat) : s8f (add8 x y) i = s8f x i + s8f y i := by
  match i with
  | 0 => rfl
  | 1 => rfl
  | 2 => rfl
  | 3 => rfl
  | 4 => rfl
  | 5 => rfl
  | 6 => rfl
  | j + 7 => rfl
theorem s8c_vec_z {y h : S8} : s8c y = vec8 (fun i => if i < 0 then s8f y i + s8f h i else s8f y i) := rfl
theorem vec8_step (y h : S8) (j i : Nat) : (if i = j then s8f y j + s8f h j else if i < j then s8f y i + s8f h i else s8f y i) = (if i < j + 1 then s8f y i + s8f h i else s8f y i) := by
  by_cases e : i = j
  · subst e; simp
  · rw [if_neg e]
    by_cases l : i < j
    · rw [if_pos l, if_pos (by omega)]
    · rw [if_neg l, if_neg (by omega)]
theorem put8 {w : World} {g t : Nat} {a b c d e f h i a' b' c' d' e' f' h' i' : Value} (k : w.heap[g]? = some (.cells #[a, b, c, d, e, f, h, i] t (0, 0))) :
    ((((((((w.setCell ⟨g, 0, none⟩ a').setCell ⟨g, 1, none⟩ b').setCell ⟨g, 2, none⟩ c').setCell ⟨g, 3, none⟩ d').setCell ⟨g, 4, none⟩ e').setCell ⟨g, 5, none⟩ f').setCell ⟨g, 6, none⟩ h').setCell ⟨g, 7, none⟩ i').heap[g]? = some (.cells #[a', b', c', d', e', f', h', i'] t (0, 0)) :=
  by simpa using blk_set (blk_set (blk_set (blk_set (blk_set (blk_set (blk_set (blk_set k 0 a') 1 b') 2 c') 3 d') 4 e') 5 f') 6 h') 7 i'
theorem gb_put8 {g : Nat} (w : World) {a' b' c' d' e' f' h' i' : Value} : Gb g w
    ((((((((w.setCell ⟨g, 0, none⟩ a').setCell ⟨g, 1, none⟩ b').setCell ⟨g, 2, none⟩ c').setCell ⟨g, 3, none⟩ d').setCell ⟨g, 4, none⟩ e').setCell ⟨g, 5, none⟩ f').setCell ⟨g, 6, none⟩ h').setCell ⟨g, 7, none⟩ i') :=
  gb_trans (gb_set _ _ _) (gb_trans (gb_set _ _ _) (gb_trans (gb_set _ _ _) (gb_trans (gb_set _ _ _) (gb_trans (gb_set _ _ _) (gb_trans (gb_set _ _ _) (gb_trans (gb_set _ _ _) (gb_set _ _ _)))))))
/-- What lies in a loop over a block's words. -/
def CInv (h : S8) (b : ByteArray) (w : World) (k : Nat) (W : World) : Prop :=
  W.heap[w.heap.size]? = some (.cells (s8c h) 23 (0, 0)) ∧ W.heap[w.heap.size + 1]? = some (.cells (s8c zero8) 23 (0, 0)) ∧ W.heap[w.heap.size + 1 + 1]? = some (.cells (s8c (run b h k)) 23 (0, 0)) ∧ Below w.heap.size w W
theorem cinv_own {n : Nat} (h : S8) (b : ByteArray) (w : World) (k : Nat) (hn : w.heap.size ≤ n) : OwnW n (CInv h b w k) :=
  .and (.blk _ _ _ _) (.and (.blk _ _ _ _) (.and (.blk _ _ _ _) (fun W W' row h hg hr => h.grown hg h.size (fun k e => Nat.le_trans hn (hr k e).1))))
theorem cinv_tch {h : S8} {b : ByteArray} {w : World} {k B : Nat} {X Y : World} (hI : CInv h b w k X) (hB : w.heap.size + 1 + 1 < B) (ht : Tch B X Y) : CInv h b w k Y :=
  ⟨tch_blk ht (by omega) hI.1, tch_blk ht (by omega) hI.2.1, tch_blk ht hB hI.2.2.1, hI.2.2.2.trans (ht.1.mono (by omega))⟩
set_option maxRecDepth 100000 in
set_option maxHeartbeats 4000000 in
theorem compress_calls (h : S8) (b : ByteArray) (w : World) (hb : b.size = 64) (hG : Tbl w) :
    Calls Tryd.prog 15 #[.agg (s8c h), .string b] w fun e w' => e = .returned (.tuple #[.agg (s8c (comp h b)), .int .i64 0]) ∧ Below w.heap.size w w' := by
  simp only [s8c]
  have hb1 : ((b.size : Int) != 64) = false := by rw [hb]; rfl
  refine (callsIn_wide (n := 9)).1 (callsIn_of_wp_marks Tryd.func15 rfl trivial ?_ rfl)
  refine XB.QM_wp ?_
  simp only [Tryd.ntmps15, List.size_toArray, List.length_cons, List.length_nil, Nat.reduceAdd, Nat.reduceSub, Array.replicate_succ, Array.replicate_zero, List.push_toArray, List.append_toArray, List.nil_append, List.cons_append]
  go_wp2_with (go_at_call 39; refine (schedule_calls _ _).mono ?_; rintro e w' ⟨rfl, rfl⟩)
  generalize hW0 : World.alloc (World.alloc (World.alloc (World.alloc w _) _) _) _ = W0
  obtain ⟨F0, F1, F2, F3⟩ := XB.boxes4 w (.cells (s8c h) 23) (.cells (s8c zero8) 23) (.cells (s8c h) 23) (.cells #[.string b] 9)
  have hW0' : (((w.alloc (.cells (s8c h) 23)).alloc (.cells (s8c zero8) 23)).alloc (.cells (s8c h) 23)).alloc (.cells #[.string b] 9) = W0 := hW0
  rw [hW0'] at F0 F1 F2 F3
  have FB : Below w.heap.size w W0 := by rw [← hW0]; exact below_alloc (below_alloc (below_alloc (below_alloc (Below.refl _ _) _) _) _) _
  have hsz : w.heap.size + 1 + 1 + 1 < W0.heap.size := blk_lt F3
  clear hW0' hW0 hb1
  have hG' := Lib.hid hG
  clear hG
  refine XB.wp_range2 (n := 9) (by omega) (gf := 58) (lb := #[.pointer (some ⟨w.heap.size + 1 + 1 + 1, 0, none⟩)]) rfl (enters_of Tryd.func58 (by kernel_rfl) rfl) (fun k => .int .i64 (k : Int)) (fun k => .int .u32 (u (wd b k))) 64 (sched_seq 8 (by omega) b hb W0.heap.size (w.heap.size + 1 + 1 + 1)) (sstart_own _ _ _) ⟨Nat.le_refl _, hsz, F3⟩ (fun _ _ h => h.2) kp_trans kp_putObj (by simp) (by simp) (by decide) (by decide)
    (CInv h b w) (fun _ _ _ => False) (fun k => cinv_own h b w k FB.size) (fun _ _ => .pure _) (fun k _ _ hi ht => cinv_tch hi (by omega) ht) (fun _ _ _ _ h _ => h) ⟨F0, F1, F2, FB⟩ ?body ?done ?stop
  case body =>
    rintro l k W ⟨G0, G1, G2, GB⟩ hk
    generalize hv : run b h k = v at G2
    have hstep : run b h (k + 1) = rnd (K k) (wd b k) v := by rw [← hv]; rfl
    have HSTEP := Lib.hid hstep
    have HG2 := Lib.hid G2
    have HG1 := Lib.hid G1
    have HG0 := Lib.hid G0
    have HGB := Lib.hid GB
    clear hv hstep G0 G1 GB
    have hk2 : (k : Int) < 64 := by omega
    have hk1 : 0 ≤ (k : Int) := by omega
    gi_wp2
    have c0_0 : ∀ p : XB.In (Below W.heap.size W), p.w.cell? ⟨w.heap.size + 1 + 1, 0, none⟩ = some (.int .u32 (u v.a)) := fun p => (blk_cell (blk_same G2 p.h) 0).trans rfl
    have c4_0 : ∀ p : XB.In (Below W.heap.size W), p.w.cell? ⟨w.heap.size + 1 + 1, 4, none⟩ = some (.int .u32 (u v.e)) := fun p => (blk_cell (blk_same G2 p.h) 4).trans rfl
    clear G2
    haveI hneY1 : Nonempty (XB.In (Below W.heap.size W)) := ⟨⟨W.drew, below_drew1 (Below.refl _ _)⟩⟩
    refine XB.round_all (fun w' => ∃ p : XB.In (Below W.heap.size W), w' = p.w) (by kernel_rfl) (by kernel_rfl) (by kernel_rfl) ⟨⟨W.drew, below_drew1 (Below.refl _ _)⟩, rfl⟩ ?_
    iterate 6 quiet_step (fail)
    refine wpQuiet_nil ?_
    rintro Y1 ⟨⟨_, hY1⟩, rfl⟩
    clear hneY1
    rename_i K_ hK_
    refine hK_ _ _ ?_
    clear hK_ c0_0 c4_0
    have G2 := blk_same HG2.out hY1
    have hT1 := hG'.out.below (HGB.out.trans (hY1.mono HGB.out.size))
    have HY1 := Lib.hid hY1
    clear hY1
    gi_wp2
    have c5_0 : ∀ p : XB.In (Below Y1.heap.size Y1), p.w.cell? ⟨w.heap.size + 1 + 1, 5, none⟩ = some (.int .u32 (u v.f)) := fun p => (blk_cell (blk_same G2 p.h) 5).trans rfl
    have c6_0 : ∀ p : XB.In (Below Y1.heap.size Y1), p.w.cell? ⟨w.heap.size + 1 + 1, 6, none⟩ = some (.int .u32 (u v.g)) := fun p => (blk_cell (blk_same G2 p.h) 6).trans rfl
    have c7_0 : ∀ p : XB.In (Below Y1.heap.size Y1), p.w.cell? ⟨w.heap.size + 1 + 1, 7, none⟩ = some (.int .u32 (u v.h)) := fun p => (blk_cell (blk_same G2 p.h) 7).trans rfl
    have ct : ∀ p : XB.In (Below Y1.heap.size Y1), p.w.cell? ⟨0, k, none⟩ = some (.int .u32 (u (K k))) := fun p => (hT1.below p.h).2 k hk
    have HT1 := Lib.hid hT1
    have HG2' := Lib.hid G2
    clear G2 hT1
    have r1 := u_add
    have r2 := u_xor
    have r3 := u_and
    have r4 := u_or
    haveI hneY2 : Nonempty (XB.In (Below Y1.heap.size Y1)) := ⟨⟨Y1.drew, below_drew1 (Below.refl _ _)⟩⟩
    refine XB.round_all (fun w' => ∃ p : XB.In (Below Y1.heap.size Y1), w' = p.w) (by kernel_rfl) (by kernel_rfl) (by kernel_rfl) ⟨⟨Y1.drew, below_drew1 (Below.refl _ _)⟩, rfl⟩ ?_
    iterate 29 quiet_step ((go_at_call 40; first | with_reducible exact XB.in_same (right6 _ _) | with_reducible exact XB.in_same (right11 _ _) | with_reducible exact XB.in_same (right25 _ _)))
    refine wpQuiet_nil ?_
    rintro Y2 ⟨⟨_, hY2⟩, rfl⟩
    clear hneY2
    rename_i K_ hK_
    refine hK_ _ _ ?_
    clear hK_ c7_0 c6_0 c5_0 ct
    gi_wp2
    have ht : u (v.h + (rot 6 v.e ^^^ rot 11 v.e ^^^ rot 25 v.e) + (v.g ^^^ v.e &&& (v.f ^^^ v.g)) + K k + wd b k) = u (tOf (K k) (wd b k) v) := by unfold tOf; rw [ch_eq]
    have G2 := blk_same HG2'.out hY2
    have HT2 := Lib.hid (HT1.out.below hY2)
    have HY2 := Lib.hid hY2
    clear hY2 HT1 HG2'
    have c1_0 : ∀ p : XB.In (Below Y2.heap.size Y2), p.w.cell? ⟨w.heap.size + 1 + 1, 1, none⟩ = some (.int .u32 (u v.b)) := fun p => (blk_cell (blk_same G2 p.h) 1).trans rfl
    have c2_0 : ∀ p : XB.In (Below Y2.heap.size Y2), p.w.cell? ⟨w.heap.size + 1 + 1, 2, none⟩ = some (.int .u32 (u v.c)) := fun p => (blk_cell (blk_same G2 p.h) 2).trans rfl
    have HG2' := Lib.hid G2
    clear G2
    haveI hneY3 : Nonempty (XB.In (Below Y2.heap.size Y2)) := ⟨⟨Y2.drew, below_drew1 (Below.refl _ _)⟩⟩
    refine XB.round_all (fun w' => ∃ p : XB.In (Below Y2.heap.size Y2), w' = p.w) (by kernel_rfl) (by kernel_rfl) (by kernel_rfl) ⟨⟨Y2.drew, below_drew1 (Below.refl _ _)⟩, rfl⟩ ?_
    iterate 22 quiet_step ((go_at_call 40; first | with_reducible exact XB.in_same (right2 _ _) | with_reducible exact XB.in_same (right13 _ _) | with_reducible exact XB.in_same (right22 _ _)))
    refine wpQuiet_nil ?_
    rintro Y3 ⟨⟨_, hY3⟩, rfl⟩
    clear hneY3
    have hq : u ((rot 2 v.a ^^^ rot 13 v.a ^^^ rot 22 v.a) + (v.a &&& v.b ||| v.c &&& (v.a ||| v.b))) = u (qOf v) := by unfold qOf; rw [maj_eq]
    rename_i K_ hK_
    refine hK_ _ _ ?_
    clear hK_ c1_0 c2_0 r1 r2 r3 r4
    go_simp
    clear ht hq
    gi_wp2
    have G2 := blk_same HG2'.out hY3
    have HY3 := Lib.hid hY3
    clear hY3 HG2' HT2
    have HG3 := Lib.hid G2
    clear G2
    haveI hneY4 : Nonempty (XB.In (Below Y3.heap.size Y3)) := ⟨⟨Y3.drew, below_drew1 (Below.refl _ _)⟩⟩
    refine XB.round_tail (fun w' => ∃ p : XB.In (Below Y3.heap.size Y3), w' = p.w) 2 (by kernel_rfl) (by kernel_rfl) (by kernel_rfl) ⟨⟨Y3.drew, below_drew1 (Below.refl _ _)⟩, rfl⟩ ?_
    simp only [List.take_succ_cons, List.take_zero, List.drop_succ_cons, List.drop_zero]
    iterate 2 quiet_step (fail)
    refine wpQuiet_nil ?_
    rintro Y4 ⟨⟨_, hY4⟩, rfl⟩
    clear hneY4
    have G4 := blk_same HG3.out hY4
    have hcp : (Builtin.copy_ #[66, 66] 3 #[.slice (some ⟨w.heap.size + 1 + 1, 1, none⟩) 7 7, .slice (some ⟨w.heap.size + 1 + 1, 0, none⟩) 7 8]).run Tryd.prog Y4 = .ok (.int .i64 7) (Y4.setRow (w.heap.size + 1 + 1) #[.int .u32 (u v.a), .int .u32 (u v.a), .int .u32 (u v.b), .int .u32 (u v.c), .int .u32 (u v.d), .int .u32 (u v.e), .int .u32 (u v.f), .int .u32 (u v.g)]) :=
      run_copy_row (P := Tryd.prog) Y4 66 66 3 22 (w.heap.size + 1 + 1) 1 7 7 ⟨w.heap.size + 1 + 1, 0, none⟩ 7 8 _ 23 [.int .u32 (u v.a), .int .u32 (u v.b), .int .u32 (u v.c), .int .u32 (u v.d), .int .u32 (u v.e), .int .u32 (u v.f), .int .u32 (u v.g)] Tryd.underlying66 (by kernel_rfl) G4 rfl (copy_src G4) (Nat.le_refl 8) (copy_one v)
    obtain ⟨Z, hZ⟩ : ∃ Z, Y4.setRow (w.heap.size + 1 + 1) #[.int .u32 (u v.a), .int .u32 (u v.a), .int .u32 (u v.b), .int .u32 (u v.c), .int .u32 (u v.d), .int .u32 (u v.e), .int .u32 (u v.f), .int .u32 (u v.g)] = Z := ⟨_, rfl⟩
    rw [hZ] at hcp
    have GZ : Z.heap[w.heap.size + 1 + 1]? = some (.cells #[.int .u32 (u v.a), .int .u32 (u v.a), .int .u32 (u v.b), .int .u32 (u v.c), .int .u32 (u v.d), .int .u32 (u v.e), .int .u32 (u v.f), .int .u32 (u v.g)] 23 (0, 0)) := by rw [← hZ]; exact setRow_heap Y4 _ _ _ _ _ G4
    have hgb : Gb (w.heap.size + 1 + 1) Y4 Z := by rw [← hZ]; exact gb_setRow _
    have HY4 := Lib.hid hY4
    have HGZ := Lib.hid GZ
    have HGB4 := Lib.hid hgb
    have HG4 := Lib.hid G4
    have e0 : Z.cell? ⟨w.heap.size + 1 + 1, 0, none⟩ = some (.int .u32 (u v.a)) := (blk_cell GZ 0).trans rfl
    have e4 : Z.cell? ⟨w.heap.size + 1 + 1, 4, none⟩ = some (.int .u32 (u v.d)) := (blk_cell GZ 4).trans rfl
    have f0 := blk_frozen GZ 0
    have f4 := blk_frozen GZ 4
    clear hY4 GZ hgb G4 hZ
    have a1 := u_mod v.d (tOf (K k) (wd b k) v)
    have a2 := u_mod (tOf (K k) (wd b k) v) (qOf v)
    gi_wp2
    have hX : Gb (w.heap.size + 1 + 1) W ((Z.setCell ⟨w.heap.size + 1 + 1, 4, none⟩ (.int .u32 (u (v.d + tOf (K k) (wd b k) v)))).setCell ⟨w.heap.size + 1 + 1, 0, none⟩ (.int .u32 (u (tOf (K k) (wd b k) v + qOf v)))) :=
      gb_trans (gb_below _ HY1.out) (gb_trans (gb_below _ HY2.out) (gb_trans (gb_below _ HY3.out) (gb_trans (gb_below _ HY4.out) (gb_trans HGB4.out (gb_trans (gb_set _ _ _) (gb_set _ _ _))))))
    refine ⟨gb_keeps hX HG2.out, kp_gb hX (by omega) (by omega), gb_same hX HG0.out (by omega), gb_same hX HG1.out (by omega), ?_, HGB.out.trans (gb_toBelow hX HGB.out.size (by omega))⟩
    rw [HSTEP.out]
    exact blk_set (blk_set HGZ.out 4 _) 0 _
  case done =>
    rintro D W hD ⟨G0, G1, G2, GB⟩ hDD
    rename_i K_ hK_
    refine hK_ _ _ ?_
    clear hK_
    generalize hye : run b h 64 = y at G2
    have HYE := Lib.hid hye
    clear hye
    have HG2 := Lib.hid G2
    have HG1 := Lib.hid G1
    have HG0 := Lib.hid G0
    have HGB := Lib.hid GB
    have HDD := Lib.hid hDD
    clear G0 G1 G2 GB hDD
    go_wp2
    go_loopw [88] (fun i X => ∃ j : Nat, j ≤ 8 ∧ i = .int .i64 j ∧ X.heap[w.heap.size + 1 + 1]? = some (.cells (vec8 (fun i => if i < j then s8f y i + s8f h i else s8f y i)) 23 (0, 0)) ∧ Gb (w.heap.size + 1 + 1) W X)
      (fun i _ => 8 - (intOf i).toNat)
    case atStart => exact ⟨0, by omega, rfl, (by rw [← s8c_vec_z]; exact HG2.out), gb_refl _ _⟩
    case round =>
      obtain ⟨j, hj, rfl, hV, hX⟩ := hrel
      by_cases hlt : j < 8
      · have j1 : (j : Int) < 8 := by omega
        have j0 : 0 ≤ (j : Int) := by omega
        have d1 : ∀ p : XB.In (Below wr.heap.size wr), p.w.cell? ⟨w.heap.size + 1 + 1, j, none⟩ = some (.int .u32 (u (s8f y j))) := fun p => (blk_cell (blk_same hV p.h) j).trans (by rw [vec8_get _ _ hlt, if_neg (Nat.lt_irrefl _)])
        have d2 : ∀ p : XB.In (Below wr.heap.size wr), p.w.cell? ⟨w.heap.size, j, none⟩ = some (.int .u32 (u (s8f h j))) := fun p => (blk_cell (blk_same (gb_same hX HG0.out (by omega)) p.h) j).trans (by rw [s8c_vec, vec8_get _ _ hlt])
        have HV := Lib.hid hV
        have HX := Lib.hid hX
        clear hV hX
        go_wp2
        have r1 := u_add
        haveI hne : Nonempty (XB.In (Below wr.heap.size wr)) := ⟨⟨wr.drew, below_drew1 (Below.refl _ _)⟩⟩
        refine XB.region_tail (fun w' => ∃ p : XB.In (Below wr.heap.size wr), w' = p.w) 8 (by kernel_rfl) (by kernel_rfl) ⟨⟨wr.drew, below_drew1 (Below.refl _ _)⟩, rfl⟩ ?_
        simp only [List.take_succ_cons, List.take_zero, List.drop_succ_cons, List.drop_zero]
        iterate 8 quiet_step (fail)
        refine wpQuiet_nil ?_
        rintro Y ⟨⟨_, hY⟩, rfl⟩
        have hV2 := blk_same HV.out hY
        have e1 := (blk_cell hV2 j).trans (vec8_get _ j hlt)
        have e2 := blk_frozen hV2 j
        have HV2 := Lib.hid hV2
        have HY := Lib.hid hY
        clear hne d1 d2 hV2 hY r1
        go_wp2
        go_roundw
        case rel => exact ⟨j + 1, by omega, by simp, (by rw [blk_set HV2.out j _, vec8_set _ _ _ hlt]; exact congrArg (fun c => some (Obj.cells c 23 (0, 0))) (vec8_congr (fun i _ => vec8_step y h j i))), gb_trans HX.out (gb_trans (gb_below _ HY.out) (gb_set _ _ _))⟩
        case measure => simp [intOf]; omega
      · obtain rfl : j = 8 := by omega
        have hend : vec8 (fun i => if i < 8 then s8f y i + s8f h i else s8f y i) = s8c (add8 h y) := by
          rw [s8c_vec]; exact vec8_congr (fun i hi => by rw [if_pos hi, s8f_add, BitVec.add_comm])
        rw [hend] at hV
        clear hend
        have hR := gb_same hX HG1.out (by omega)
        unfold s8c at hV hR
        have v0 := (blk_cell hV 0).trans rfl
        have v1 := (blk_cell hV 1).trans rfl
        have v2 := (blk_cell hV 2).trans rfl
        have v3 := (blk_cell hV 3).trans rfl
        have v4 := (blk_cell hV 4).trans rfl
        have v5 := (blk_cell hV 5).trans rfl
        have v6 := (blk_cell hV 6).trans rfl
        have v7 := (blk_cell hV 7).trans rfl
        have z0 := (blk_cell hR 0).trans rfl
        have z1 := (blk_cell hR 1).trans rfl
        have z2 := (blk_cell hR 2).trans rfl
        have z3 := (blk_cell hR 3).trans rfl
        have z4 := (blk_cell hR 4).trans rfl
        have z5 := (blk_cell hR 5).trans rfl
        have z6 := (blk_cell hR 6).trans rfl
        have z7 := (blk_cell hR 7).trans rfl
        have y0 := blk_frozen hR 0
        have y1 := blk_frozen hR 1
        have y2 := blk_frozen hR 2
        have y3 := blk_frozen hR 3
        have y4 := blk_frozen hR 4
        have y5 := blk_frozen hR 5
        have y6 := blk_frozen hR 6
        have y7 := blk_frozen hR 7
        have HR := Lib.hid hR
        have HV := Lib.hid hV
        have HX := Lib.hid hX
        clear hV hR hX
        go_wp2
        generalize hXX : World.setCell _ ⟨w.heap.size + 1, 7, none⟩ _ = X
        have XR : X.heap[w.heap.size + 1]? = some (.cells (s8c (add8 h y)) 23 (0, 0)) := by rw [← hXX]; exact put8 HR.out
        have XG : Gb (w.heap.size + 1) wr X := by rw [← hXX]; exact gb_put8 _
        have XBl : Below w.heap.size w X := (HGB.out.trans (gb_toBelow HX.out HGB.out.size (by omega))).trans (gb_toBelow XG (Nat.le_trans HGB.out.size HX.out.size) (by omega))
        have XD : X.heap[D]? = some (.deferred (some [])) := gb_same XG (gb_same HX.out HDD.out (by omega)) (by omega)
        have XP := (XB.OwnW.blk (B := W0.heap.size) _ _ _ _).putObj (.deferred none) XR hD XD rfl
        clear hXX
        refine XB.QM_ret (.inl rfl) XD (XB.resultsX_list (rs := [.cell 4 23, .tmp 5]) (vs := [.agg (s8c (add8 h y)), .int .i64 0]) rfl (by simp) (.cell (w.heap.size + 1) _ _ _ _ rfl XP Tryd.underlying23 rfl (by kernel_rfl) (.tmp .nil))) ⟨?_, (XB.OwnW.below (Nat.le_refl _) FB.size).putObj _ XBl hD XD rfl⟩
        unfold comp
        rw [HYE.out]
        rfl
  case stop => exact fun _ _ _ _ _ _ h => h.elim
set_option maxRecDepth 100000 in
theorem compress_err (h : S8) (b : ByteArray) (w : World) (hb : b.size ≠ 64) :
    Calls Tryd.prog 15 #[.agg (s8c h), .string b] w fun e w' => e = .returned (.tuple #[.agg (s8c zero8), .int .i64 1]) ∧ Below w.heap.size w w' := by
  simp only [s8c]
  have hb1 : ((b.size : Int) != 64) = true := by rw [bne_iff_ne]; omega
  go_enter Tryd.func15, Tryd.ntmps15
  go_wp2
  exact bodyPost_ret (v := .tuple #[.agg (s8c zero8), .int .i64 1]) (by simp [results, Tryd.results15, go_sem]; rfl) rfl ⟨rfl, below_alloc (below_alloc (Below.refl _ _) _) _⟩
end Go.Proofs.YtajaobebcmlhaaaDoor.Pr
