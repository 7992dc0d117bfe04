/-
  A round of DigestTells' last loop: one sum on its way, asked by both writings. Condition: the words of the rounds lie where the program has them; the sum's count is one of int's.
-/
import Derived.Test.YtajaobebcmlhaaaDoorRefSum
import Derived.Test.YtajaobebcmlhaaaDoorPartsW
import Derived.Great.BuildSlice
namespace Go.Proofs.YtajaobebcmlhaaaDoor.Pr
open Go.RowKit Go.Shelf Go.Proofs.YtajaobebcmlhaaaDoor.XB Go.Proofs.Sha Go.Proofs.YtajaobebcmlhaaaDoorW.PrintWords
attribute [local go_sem] Oper.semAt_some
set_option linter.unusedVariables false
set_option linter.unusedSimpArgs false
set_option maxRecDepth 100000
def five (a b c d e : Hs) : Array Value := hsc a ++ hsc b ++ hsc c ++ hsc d ++ hsc e
def allLoops : Code → List Code
  | .loop c => c :: allLoops c
  | .seq a b => allLoops a ++ allLoops b
  | .block _ c => allLoops c
  | .scope c => allLoops c
  | .cond _ a b => allLoops a ++ allLoops b
  | _ => []
theorem wrow {w : World} {g : Nat} {cs : Array Value} (h : w.heap[g]? = some (.cells cs 25 (0, 0))) (x : Hs) (n : Nat) (e : ∀ k, k < 10 → cs[n + k]? = (hsc x)[k]?) : ∀ k v, (hsc x)[k]? = some v → w.cell? ⟨g, n + k, none⟩ = some v := by
  intro k v hk
  have hlt : k < 10 := (Array.getElem?_eq_some_iff.1 hk).1
  rw [blk_cell h (n + k), e k hlt]
  exact hk
theorem five_at (a b c d e : Hs) (k : Nat) (hk : k < 10) : (five a b c d e)[0 + k]? = (hsc a)[k]? ∧ (five a b c d e)[10 + k]? = (hsc b)[k]? ∧ (five a b c d e)[20 + k]? = (hsc c)[k]? ∧ (five a b c d e)[30 + k]? = (hsc d)[k]? ∧ (five a b c d e)[40 + k]? = (hsc e)[k]? := by
  have : k = 0 ∨ k = 1 ∨ k = 2 ∨ k = 3 ∨ k = 4 ∨ k = 5 ∨ k = 6 ∨ k = 7 ∨ k = 8 ∨ k = 9 := by omega
  rcases this with rfl | rfl | rfl | rfl | rfl | rfl | rfl | rfl | rfl | rfl <;> (refine ⟨?_, ?_, ?_, ?_, ?_⟩ <;> kernel_rfl)
theorem five_get {w : World} {g : Nat} {a b c d e : Hs} (h : w.heap[g]? = some (.cells (five a b c d e) 25 (0, 0))) (j : Nat) (hj : j < 5) (P : Hs → Prop) (pa : P a) (pb : P b) (pc : P c) (pd : P d) (pe : P e) :
    ∃ x : Hs, (∀ k v, (hsc x)[k]? = some v → w.cell? ⟨g, j * 10 + k, none⟩ = some v) ∧ P x := by
  have key : ∀ (x : Hs) (n : Nat), (∀ k, k < 10 → (five a b c d e)[n + k]? = (hsc x)[k]?) → ∀ k v, (hsc x)[k]? = some v → w.cell? ⟨g, n + k, none⟩ = some v := fun x n hx => wrow h x n hx
  have hjj : j = 0 ∨ j = 1 ∨ j = 2 ∨ j = 3 ∨ j = 4 := by omega
  rcases hjj with rfl | rfl | rfl | rfl | rfl
  · exact ⟨a, key a 0 (fun k hk => (five_at a b c d e k hk).1), pa⟩
  · exact ⟨b, key b 10 (fun k hk => (five_at a b c d e k hk).2.1), pb⟩
  · exact ⟨c, key c 20 (fun k hk => (five_at a b c d e k hk).2.2.1), pc⟩
  · exact ⟨d, key d 30 (fun k hk => (five_at a b c d e k hk).2.2.2.1), pd⟩
  · exact ⟨e, key e 40 (fun k hk => (five_at a b c d e k hk).2.2.2.2), pe⟩
noncomputable def d4body : Code := (Tryd.f3.body.map fun c => (allLoops c).getD 2 .skip).getD .skip
set_option maxHeartbeats 8000000 in
theorem d4_round {K : Act → World → Prop} {Q : Exit → Act → World → Prop} (j g : Nat) (hj : j < 5) (x : Hs) (y : ByteArray) (wr : World) (hG : Tbl wr)
    (hrow : ∀ k v, (hsc x)[k]? = some v → wr.cell? ⟨g, j * 10 + k, none⟩ = some v) (hy : y.size ≤ 500) (h0 : -9223372036854775808 ≤ x.many) (h1 : x.many ≤ 9223372036854775807)
    {p0 p1 p2 p3 p4 p5 p6 p7 p8 p9 p10 p12 p13 p14 p15 p16 p17 p18 p19 p20 p21 p22 p23 p24 p25 p26 p36 p37 p38 p39 p40 p41 p42 p43 p44 p45 p46 p47 p48 p49 p50 p51 p52 p53 p54 p55 p56 p57 p58 p59 p60 p61 p62 p63 p64 p65 p66 p67 p68 p69 p70 p71 p72 p73 p74 p75 p76 p77 p78 p79 p80 p81 p82 p83 p84 p85 p86 p87 p88 p89 p90 p91 p92 p93 p94 p95 p96 p97 p98 p99 p100 p101 p102 p103 p104 p105 p106 p107 p108 p109 p110 p111 p112 p113 p114 p115 p116 p117 p118 p119 p120 p121 p122 p123 p124 p125 p126 p127 p128 p129 p130 p131 p132 p133 p134 p135 p136 p137 p138 p139 p140 p141 p142 p143 p203 p204 p205 p206 p207 p208 p209 p210 p211 p212 p213 p214 p215 p216 p217 p218 p219 p220 p221 p222 p223 : Value} {u27 u28 u29 u30 u31 u32 u33 u34 u35 u147 u148 u149 u150 u151 u152 u153 u154 u155 u156 u157 u158 u159 u160 u161 u162 u163 u164 u165 u166 u167 u168 u169 u170 u171 u172 u173 u174 u175 u176 u177 u178 u179 u180 u181 u182 u183 u184 u185 u186 u187 u188 u189 u190 u191 u192 u193 u194 u195 u196 u197 u198 u199 u200 u201 u202 : Value}
    (hK : ∀ (v27 v28 v29 v30 v31 v32 v33 v34 v35 v147 v148 v149 v150 v151 v152 v153 v154 v155 v156 v157 v158 v159 v160 v161 v162 v163 v164 v165 v166 v167 v168 v169 v170 v171 v172 v173 v174 v175 v176 v177 v178 v179 v180 v181 v182 v183 v184 v185 v186 v187 v188 v189 v190 v191 v192 v193 v194 v195 v196 v197 v198 v199 v200 v201 v202 : Value) (W' : World), Below wr.heap.size wr W' → K ⟨#[p0, p1, p2, p3, p4, p5, p6, p7, p8, p9, p10, .string y, p12, p13, p14, p15, p16, p17, p18, p19, p20, p21, p22, p23, p24, p25, p26, v27, v28, v29, v30, v31, v32, v33, v34, v35, p36, p37, p38, p39, p40, p41, p42, p43, p44, p45, p46, p47, p48, p49, p50, p51, p52, p53, p54, p55, p56, p57, p58, p59, p60, p61, p62, p63, p64, p65, p66, p67, p68, p69, p70, p71, p72, p73, p74, p75, p76, p77, p78, p79, p80, p81, p82, p83, p84, p85, p86, p87, p88, p89, p90, p91, p92, p93, p94, p95, p96, p97, p98, p99, p100, p101, p102, p103, p104, p105, p106, p107, p108, p109, p110, p111, p112, p113, p114, p115, p116, p117, p118, p119, p120, p121, p122, p123, p124, p125, p126, p127, p128, p129, p130, p131, p132, p133, p134, p135, p136, p137, p138, p139, p140, p141, p142, p143, .slice (some ⟨g, 0, none⟩) 5 5, .int .i64 5, .int .i64 ((j : Int) + 1), v147, v148, v149, v150, v151, v152, v153, v154, v155, v156, v157, v158, v159, v160, v161, v162, v163, v164, v165, v166, v167, v168, v169, v170, v171, v172, v173, v174, v175, v176, v177, v178, v179, v180, v181, v182, v183, v184, v185, v186, v187, v188, v189, v190, v191, v192, v193, v194, v195, v196, v197, v198, v199, v200, v201, v202, p203, p204, p205, p206, p207, p208, p209, p210, p211, p212, p213, p214, p215, p216, p217, p218, p219, p220, p221, p222, p223], []⟩ W') :
    Code.wp Tryd.prog d4body (Exit.then K Q) ⟨#[p0, p1, p2, p3, p4, p5, p6, p7, p8, p9, p10, .string y, p12, p13, p14, p15, p16, p17, p18, p19, p20, p21, p22, p23, p24, p25, p26, u27, u28, u29, u30, u31, u32, u33, u34, u35, p36, p37, p38, p39, p40, p41, p42, p43, p44, p45, p46, p47, p48, p49, p50, p51, p52, p53, p54, p55, p56, p57, p58, p59, p60, p61, p62, p63, p64, p65, p66, p67, p68, p69, p70, p71, p72, p73, p74, p75, p76, p77, p78, p79, p80, p81, p82, p83, p84, p85, p86, p87, p88, p89, p90, p91, p92, p93, p94, p95, p96, p97, p98, p99, p100, p101, p102, p103, p104, p105, p106, p107, p108, p109, p110, p111, p112, p113, p114, p115, p116, p117, p118, p119, p120, p121, p122, p123, p124, p125, p126, p127, p128, p129, p130, p131, p132, p133, p134, p135, p136, p137, p138, p139, p140, p141, p142, p143, .slice (some ⟨g, 0, none⟩) 5 5, .int .i64 5, .int .i64 (j : Int), u147, u148, u149, u150, u151, u152, u153, u154, u155, u156, u157, u158, u159, u160, u161, u162, u163, u164, u165, u166, u167, u168, u169, u170, u171, u172, u173, u174, u175, u176, u177, u178, u179, u180, u181, u182, u183, u184, u185, u186, u187, u188, u189, u190, u191, u192, u193, u194, u195, u196, u197, u198, u199, u200, u201, u202, p203, p204, p205, p206, p207, p208, p209, p210, p211, p212, p213, p214, p215, p216, p217, p218, p219, p220, p221, p222, p223], []⟩ wr := by
  conv => arg 2; whnf
  have HG := Lib.hid hG
  have HK := Lib.hid hK
  have j0 : (j : Int) < 5 := by omega
  have c0 := hrow 0 _ rfl
  have c1 := hrow 1 _ rfl
  have c2 := hrow 2 _ rfl
  have c3 := hrow 3 _ rfl
  have c4 := hrow 4 _ rfl
  have c5 := hrow 5 _ rfl
  have c6 := hrow 6 _ rfl
  have c7 := hrow 7 _ rfl
  have c8 := hrow 8 _ rfl
  have c9 := hrow 9 _ rfl
  rw [Nat.add_zero] at c0
  clear hG hK hrow
  have HB : Hid (Below wr.heap.size wr wr) := Lib.hid (Below.refl _ _)
  have ha := Lib.hid (fun W q => add_calls x y W q)
  have HP := Lib.hid (fun W q => add_calls x y W q)
  have HPR := Lib.hid (fun W => refadd_calls x y W)
  have HE := Lib.hid (fun W q => end_calls x W q)
  have HER := Lib.hid (fun W => refend_calls x W)
  have HR25 := Lib.hid (fun W => right_any x W)
  have HR26 := Lib.hid (fun W => refright_any x W)
  generalize addH x y = pp at *
  obtain ⟨p, pe⟩ := pp
  have HSP := Lib.hid (fun W => same_calls p W)
  generalize endH x = ee at *
  obtain ⟨en, ee⟩ := ee
  generalize rightH x = rx at *
  by_cases hlong : (500 : Int) < (x.rest.size : Int)
  · skip
    go_wp2_with (first
      | (with_reducible refine wpList_store_row rfl 25 (.tmp 27) (.tmp 149) rfl wr.heap.size (hsc x) rfl (by first | rfl | kernel_rfl) 25 _ (heap_alloc_new wr _) (by kernel_rfl) (by first | rfl | kernel_rfl) (by first | rfl | kernel_rfl) ?_; generalize hX : World.setRow _ wr.heap.size (hsc x) = X1; have HR27 := (show Hid (X1.heap[wr.heap.size]? = some (.cells (hsc x) 25 (0, 0))) from Lib.hid (by rw [← hX]; exact setRow_heap _ wr.heap.size _ (hsc x) 25 (0, 0) (heap_alloc_new wr _))); have HX1n := (show Hid (Below wr.heap.size wr X1) from Lib.hid (by rw [← hX]; exact below_setRow (below_alloc (Below.refl wr.heap.size wr) _) (Nat.le_refl _) (hsc x))); have HX1 := Lib.hid (HB.out.trans (HX1n.out.mono HB.out.size)); have e8 : X1.cell? ⟨wr.heap.size, 8, none⟩ = some (.string x.rest) := (blk_cell HR27.out 8).trans rfl; clear hX c0 c1 c2 c3 c4 c5 c6 c7 c8 c9))
    exact HK.out _ _ _ _ _ _ _ _ _ _ _ _ _ _ _ _ _ _ _ _ _ _ _ _ _ _ _ _ _ _ _ _ _ _ _ _ _ _ _ _ _ _ _ _ _ _ _ _ _ _ _ _ _ _ _ _ _ _ _ _ _ _ _ _ _ _ HX1.out
  · skip
    go_wp2_with (first
      | (with_reducible refine wpList_store_row rfl 25 (.tmp 27) (.tmp 149) rfl wr.heap.size (hsc x) rfl (by first | rfl | kernel_rfl) 25 _ (heap_alloc_new wr _) (by kernel_rfl) (by first | rfl | kernel_rfl) (by first | rfl | kernel_rfl) ?_; generalize hX : World.setRow _ wr.heap.size (hsc x) = X1; have HR27 := (show Hid (X1.heap[wr.heap.size]? = some (.cells (hsc x) 25 (0, 0))) from Lib.hid (by rw [← hX]; exact setRow_heap _ wr.heap.size _ (hsc x) 25 (0, 0) (heap_alloc_new wr _))); have HX1n := (show Hid (Below wr.heap.size wr X1) from Lib.hid (by rw [← hX]; exact below_setRow (below_alloc (Below.refl wr.heap.size wr) _) (Nat.le_refl _) (hsc x))); have HX1 := Lib.hid (HB.out.trans (HX1n.out.mono HB.out.size)); have e8 : X1.cell? ⟨wr.heap.size, 8, none⟩ = some (.string x.rest) := (blk_cell HR27.out 8).trans rfl; clear hX c0 c1 c2 c3 c4 c5 c6 c7 c8 c9)
      | (with_reducible refine wpList_load_row rfl 25 (.tmp 27) rfl wr.heap.size rfl 25 (hsc x) (0, 0) _ HR27.out Tryd.underlying25 rfl (by kernel_rfl) ?_)
      | (go_at_call 17; with_reducible refine (HP.out _ (HG.out.below HX1.out)).mono ?_; rintro e W2 ⟨rfl, hb⟩; have HB2n := Lib.hid hb; have HB2 := Lib.hid (HX1.out.trans (hb.mono HX1.out.size)); clear hb)
      | (with_reducible refine wpList_store_row rfl 25 (.tmp 28) (.tmp 158) rfl W2.heap.size (hsc p) rfl (by first | rfl | kernel_rfl) 25 _ (heap_alloc_new W2 _) (by kernel_rfl) (by first | rfl | kernel_rfl) (by first | rfl | kernel_rfl) ?_; generalize hX : World.setRow _ W2.heap.size (hsc p) = X2; have HR28 := (show Hid (X2.heap[W2.heap.size]? = some (.cells (hsc p) 25 (0, 0))) from Lib.hid (by rw [← hX]; exact setRow_heap _ W2.heap.size _ (hsc p) 25 (0, 0) (heap_alloc_new W2 _))); have HX2n := (show Hid (Below W2.heap.size W2 X2) from Lib.hid (by rw [← hX]; exact below_setRow (below_alloc (Below.refl W2.heap.size W2) _) (Nat.le_refl _) (hsc p))); have HX2 := Lib.hid (HB2.out.trans (HX2n.out.mono HB2.out.size)); have HR27a := Lib.hid (blk_same (blk_same (HR27.out) HB2n.out) HX2n.out); clear hX)
      | (with_reducible refine wpList_load_row rfl 25 (.tmp 27) rfl wr.heap.size rfl 25 (hsc x) (0, 0) _ HR27a.out Tryd.underlying25 rfl (by kernel_rfl) ?_)
      | (go_at_call 19; with_reducible refine (HPR.out _).mono ?_; rintro e W3 ⟨rfl, hb⟩; have HB3n := Lib.hid hb; have HB3 := Lib.hid (HX2.out.trans (hb.mono HX2.out.size)); clear hb)
      | (with_reducible refine wpList_store_row rfl 25 (.tmp 30) (.tmp 164) rfl W3.heap.size (hsc p) rfl (by first | rfl | kernel_rfl) 25 _ (heap_alloc_new W3 _) (by kernel_rfl) (by first | rfl | kernel_rfl) (by first | rfl | kernel_rfl) ?_; generalize hX : World.setRow _ W3.heap.size (hsc p) = X3; have HR30 := (show Hid (X3.heap[W3.heap.size]? = some (.cells (hsc p) 25 (0, 0))) from Lib.hid (by rw [← hX]; exact setRow_heap _ W3.heap.size _ (hsc p) 25 (0, 0) (heap_alloc_new W3 _))); have HX3n := (show Hid (Below W3.heap.size W3 X3) from Lib.hid (by rw [← hX]; exact below_setRow (below_alloc (Below.refl W3.heap.size W3) _) (Nat.le_refl _) (hsc p))); have HX3 := Lib.hid (HB3.out.trans (HX3n.out.mono HB3.out.size)); have HR27b := Lib.hid (blk_same (blk_same (HR27a.out) HB3n.out) HX3n.out); have HR28b := Lib.hid (blk_same (blk_same (HR28.out) HB3n.out) HX3n.out); clear hX)
      | (with_reducible refine wpList_load_row rfl 25 (.tmp 27) rfl wr.heap.size rfl 25 (hsc x) (0, 0) _ HR27b.out Tryd.underlying25 rfl (by kernel_rfl) ?_)
      | (go_at_call 23; with_reducible refine (HE.out _ (HG.out.below HX3.out)).mono ?_; rintro e W4 ⟨rfl, hb⟩; have HB4n := Lib.hid hb; have HB4 := Lib.hid (HX3.out.trans (hb.mono HX3.out.size)); have HR27c := Lib.hid (blk_same HR27b.out hb); clear hb)
      | (with_reducible refine wpList_load_row rfl 25 (.tmp 27) rfl wr.heap.size rfl 25 (hsc x) (0, 0) _ HR27c.out Tryd.underlying25 rfl (by kernel_rfl) ?_)
      | (go_at_call 24; with_reducible refine (HER.out _).mono ?_; rintro e W5 ⟨rfl, hb⟩; have HB5n := Lib.hid hb; have HB5 := Lib.hid (HB4.out.trans (hb.mono HB4.out.size)); have HR27d := Lib.hid (blk_same HR27c.out hb); have HR28d := Lib.hid (blk_same (blk_same HR28b.out HB4n.out) hb); have HR30d := Lib.hid (blk_same (blk_same HR30.out HB4n.out) hb); clear hb))
    have hsm := fun W => HSP.out W
    have hr25 := fun W => HR25.out W
    have hr26 := fun W => HR26.out W
    simp only [hsc] at hsm hr25 hr26
    have g7 := HR27d.out
    have g8 := HR28d.out
    have g0 := HR30d.out
    unfold hsc at g7 g8 g0
    have a0 : ∀ q : XB.In (Below W5.heap.size W5), q.w.cell? ⟨wr.heap.size, 0, none⟩ = some (.int .u32 (u x.H.a)) := fun q => (blk_cell (blk_same g7 q.h) 0).trans rfl
    have a1 : ∀ q : XB.In (Below W5.heap.size W5), q.w.cell? ⟨wr.heap.size, 1, none⟩ = some (.int .u32 (u x.H.b)) := fun q => (blk_cell (blk_same g7 q.h) 1).trans rfl
    have a2 : ∀ q : XB.In (Below W5.heap.size W5), q.w.cell? ⟨wr.heap.size, 2, none⟩ = some (.int .u32 (u x.H.c)) := fun q => (blk_cell (blk_same g7 q.h) 2).trans rfl
    have a3 : ∀ q : XB.In (Below W5.heap.size W5), q.w.cell? ⟨wr.heap.size, 3, none⟩ = some (.int .u32 (u x.H.d)) := fun q => (blk_cell (blk_same g7 q.h) 3).trans rfl
    have a4 : ∀ q : XB.In (Below W5.heap.size W5), q.w.cell? ⟨wr.heap.size, 4, none⟩ = some (.int .u32 (u x.H.e)) := fun q => (blk_cell (blk_same g7 q.h) 4).trans rfl
    have a5 : ∀ q : XB.In (Below W5.heap.size W5), q.w.cell? ⟨wr.heap.size, 5, none⟩ = some (.int .u32 (u x.H.f)) := fun q => (blk_cell (blk_same g7 q.h) 5).trans rfl
    have a6 : ∀ q : XB.In (Below W5.heap.size W5), q.w.cell? ⟨wr.heap.size, 6, none⟩ = some (.int .u32 (u x.H.g)) := fun q => (blk_cell (blk_same g7 q.h) 6).trans rfl
    have a7 : ∀ q : XB.In (Below W5.heap.size W5), q.w.cell? ⟨wr.heap.size, 7, none⟩ = some (.int .u32 (u x.H.h)) := fun q => (blk_cell (blk_same g7 q.h) 7).trans rfl
    have a8 : ∀ q : XB.In (Below W5.heap.size W5), q.w.cell? ⟨wr.heap.size, 8, none⟩ = some (.string x.rest) := fun q => (blk_cell (blk_same g7 q.h) 8).trans rfl
    have a9 : ∀ q : XB.In (Below W5.heap.size W5), q.w.cell? ⟨wr.heap.size, 9, none⟩ = some (.int .i64 x.many) := fun q => (blk_cell (blk_same g7 q.h) 9).trans rfl
    have b0 : ∀ q : XB.In (Below W5.heap.size W5), q.w.cell? ⟨W2.heap.size, 0, none⟩ = some (.int .u32 (u p.H.a)) := fun q => (blk_cell (blk_same g8 q.h) 0).trans rfl
    have b1 : ∀ q : XB.In (Below W5.heap.size W5), q.w.cell? ⟨W2.heap.size, 1, none⟩ = some (.int .u32 (u p.H.b)) := fun q => (blk_cell (blk_same g8 q.h) 1).trans rfl
    have b2 : ∀ q : XB.In (Below W5.heap.size W5), q.w.cell? ⟨W2.heap.size, 2, none⟩ = some (.int .u32 (u p.H.c)) := fun q => (blk_cell (blk_same g8 q.h) 2).trans rfl
    have b3 : ∀ q : XB.In (Below W5.heap.size W5), q.w.cell? ⟨W2.heap.size, 3, none⟩ = some (.int .u32 (u p.H.d)) := fun q => (blk_cell (blk_same g8 q.h) 3).trans rfl
    have b4 : ∀ q : XB.In (Below W5.heap.size W5), q.w.cell? ⟨W2.heap.size, 4, none⟩ = some (.int .u32 (u p.H.e)) := fun q => (blk_cell (blk_same g8 q.h) 4).trans rfl
    have b5 : ∀ q : XB.In (Below W5.heap.size W5), q.w.cell? ⟨W2.heap.size, 5, none⟩ = some (.int .u32 (u p.H.f)) := fun q => (blk_cell (blk_same g8 q.h) 5).trans rfl
    have b6 : ∀ q : XB.In (Below W5.heap.size W5), q.w.cell? ⟨W2.heap.size, 6, none⟩ = some (.int .u32 (u p.H.g)) := fun q => (blk_cell (blk_same g8 q.h) 6).trans rfl
    have b7 : ∀ q : XB.In (Below W5.heap.size W5), q.w.cell? ⟨W2.heap.size, 7, none⟩ = some (.int .u32 (u p.H.h)) := fun q => (blk_cell (blk_same g8 q.h) 7).trans rfl
    have b8 : ∀ q : XB.In (Below W5.heap.size W5), q.w.cell? ⟨W2.heap.size, 8, none⟩ = some (.string p.rest) := fun q => (blk_cell (blk_same g8 q.h) 8).trans rfl
    have b9 : ∀ q : XB.In (Below W5.heap.size W5), q.w.cell? ⟨W2.heap.size, 9, none⟩ = some (.int .i64 p.many) := fun q => (blk_cell (blk_same g8 q.h) 9).trans rfl
    have d0 : ∀ q : XB.In (Below W5.heap.size W5), q.w.cell? ⟨W3.heap.size, 0, none⟩ = some (.int .u32 (u p.H.a)) := fun q => (blk_cell (blk_same g0 q.h) 0).trans rfl
    have d1 : ∀ q : XB.In (Below W5.heap.size W5), q.w.cell? ⟨W3.heap.size, 1, none⟩ = some (.int .u32 (u p.H.b)) := fun q => (blk_cell (blk_same g0 q.h) 1).trans rfl
    have d2 : ∀ q : XB.In (Below W5.heap.size W5), q.w.cell? ⟨W3.heap.size, 2, none⟩ = some (.int .u32 (u p.H.c)) := fun q => (blk_cell (blk_same g0 q.h) 2).trans rfl
    have d3 : ∀ q : XB.In (Below W5.heap.size W5), q.w.cell? ⟨W3.heap.size, 3, none⟩ = some (.int .u32 (u p.H.d)) := fun q => (blk_cell (blk_same g0 q.h) 3).trans rfl
    have d4 : ∀ q : XB.In (Below W5.heap.size W5), q.w.cell? ⟨W3.heap.size, 4, none⟩ = some (.int .u32 (u p.H.e)) := fun q => (blk_cell (blk_same g0 q.h) 4).trans rfl
    have d5 : ∀ q : XB.In (Below W5.heap.size W5), q.w.cell? ⟨W3.heap.size, 5, none⟩ = some (.int .u32 (u p.H.f)) := fun q => (blk_cell (blk_same g0 q.h) 5).trans rfl
    have d6 : ∀ q : XB.In (Below W5.heap.size W5), q.w.cell? ⟨W3.heap.size, 6, none⟩ = some (.int .u32 (u p.H.g)) := fun q => (blk_cell (blk_same g0 q.h) 6).trans rfl
    have d7 : ∀ q : XB.In (Below W5.heap.size W5), q.w.cell? ⟨W3.heap.size, 7, none⟩ = some (.int .u32 (u p.H.h)) := fun q => (blk_cell (blk_same g0 q.h) 7).trans rfl
    have d8 : ∀ q : XB.In (Below W5.heap.size W5), q.w.cell? ⟨W3.heap.size, 8, none⟩ = some (.string p.rest) := fun q => (blk_cell (blk_same g0 q.h) 8).trans rfl
    have d9 : ∀ q : XB.In (Below W5.heap.size W5), q.w.cell? ⟨W3.heap.size, 9, none⟩ = some (.int .i64 p.many) := fun q => (blk_cell (blk_same g0 q.h) 9).trans rfl
    clear g7 g8 g0
    haveI hne : Nonempty (XB.In (Below W5.heap.size W5)) := ⟨⟨W5.drew, below_drew1 (Below.refl _ _)⟩⟩
    refine XB.region_all (fun w' => ∃ q : XB.In (Below W5.heap.size W5), w' = q.w) (by kernel_rfl) (by kernel_rfl) ⟨⟨W5.drew, below_drew1 (Below.refl _ _)⟩, rfl⟩ ?_
    iterate 26 quiet_step (first | (go_at_call 25; with_reducible exact XB.in_belowB (hr25 _)) | (go_at_call 26; with_reducible exact XB.in_belowB (hr26 _)) | (go_at_call 21; with_reducible exact XB.in_belowB (hsm _)))
    refine wpQuiet_nil ?_
    rintro Y ⟨⟨_, hY⟩, rfl⟩
    have HY := Lib.hid (HB5.out.trans (hY.mono HB5.out.size))
    clear hY
    go_wp2

    exact HK.out _ _ _ _ _ _ _ _ _ _ _ _ _ _ _ _ _ _ _ _ _ _ _ _ _ _ _ _ _ _ _ _ _ _ _ _ _ _ _ _ _ _ _ _ _ _ _ _ _ _ _ _ _ _ _ _ _ _ _ _ _ _ _ _ _ _ HY.out

end Go.Proofs.YtajaobebcmlhaaaDoor.Pr
