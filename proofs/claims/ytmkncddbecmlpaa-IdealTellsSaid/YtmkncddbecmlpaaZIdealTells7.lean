/-
  A part of what the row IdealTells reaches, laid together by a program of this session (wip/tools/shake.py) out of this seat's texts. No condition but the ones that each lemma names.
-/
import Derived.OpenShut
import Derived.ProofKit
import Derived.DataElems
import Derived.ChangeSame
import Derived.Deep.Strs
import Derived.Lib.SmallJoins
import Derived.Test.YtmkncddbecmlpaaZIdealTells1
import Derived.Test.YtmkncddbecmlpaaZIdealTells3
import Derived.Test.YtmkncddbecmlpaaZIdealTells6
set_option linter.unusedVariables false
set_option linter.unusedSimpArgs false
section
namespace Go.Proofs.Ytmkncddbecmlpaa.Pr
open Go.Proofs.Ytmkncddbecmlpaa.Sq Go.RowKit Go.Shelf Go.Proofs.Ytmkncddbecmlpaa.XB Go.Proofs.YtmkncddbecmlpaaW.PrintWords Go.Proofs.YtmkncddbecmlpaaW.PrintLast Go.Proofs.YtmkncddbecmlpaaW.PrintMore
set_option linter.unusedVariables false
set_option linter.unusedSimpArgs false
set_option maxRecDepth 100000
theorem row_step {P : Program} {ops : Array Oper} {Q : Exit → Act → World → Prop} {o : Oper} {a : Act} {Kc : Act → World → Prop} {W : World} (hw : Region.wanted o (yielded ops a.tmps) = true) {N : Tmp} (_hd : o.dst = some N) {n : Nat} {cs : Array Value} {t : TypeId}
    (hrun : (execOp a.eval o).run P W = .ok (.value (.slice (some ⟨W.heap.size, 0, none⟩) n n)) (W.alloc (.cells cs t (0, 0))))
    (h : ∀ g, g = W.heap.size → ∀ w1, w1.heap[g]? = some (.cells cs t (0, 0)) → Below W.heap.size W w1 → Kc (a.put o.dst (.slice (some ⟨g, 0, none⟩) n n)) w1) : if Region.wanted o (yielded ops a.tmps) = true then Oper.wp P o a W Kc Q else Kc (a.put o.dst undef) W :=
  event_step hw hrun (h _ rfl _ (blk_new W _) (below_alloc (Below.refl _ _) _))
def regionIn : Code → Nat → Option Code
  | .region id ops m, k => if id == k then some (.region id ops m) else none
  | .seq a b, k => match regionIn a k with
    | some o => some o
    | none => regionIn b k
  | .cond _ a b, k => match regionIn a k with
    | some o => some o
    | none => regionIn b k
  | .block _ c, k => regionIn c k
  | .loop c, k => regionIn c k
  | .scope c, k => regionIn c k
  | _, _ => none
def it8.T34 : Bool × List (List Nat × List Nat) := (true, [([], []), ([0], [0]), ([1], [1]), ([], []), ([3], [3]), ([4, 2], [4]), ([2, 5], [2, 5]), ([], []), ([], []), ([8], [8]), ([9, 5], [9]), ([7, 10], [7, 10]), ([], []), ([12], [12]), ([13, 10], [13]), ([], []), ([14, 15], [14, 15]), ([6, 11, 16], [6, 11, 16]), ([17], [17]), ([], [])])
def it8.B34 : List Nat := [0, 1, 3, 0, 8, 31, 63, 0, 0, 256, 831, 1983, 0, 4096, 14143, 0, 63295, 131071, 262143, 0]
theorem it8.tab34 : rtab .any (opsOf Try.f8 34) = it8.T34 := by kernel_rfl
theorem it8.bits34 : waitsOk it8.T34.2 it8.B34 = true := by kernel_rfl
noncomputable def it34 : Code := ((Try.f8.body.bind fun c => regionIn c 34)).getD .skip
set_option maxHeartbeats 8000000 in
theorem it_r34 {Q : Exit → Act → World → Prop} (gn : Nat) {any lb tx : ByteArray} {n0 n1 n2 : Int} {ty : TypeId} (w : World) (hp : ∀ c a (m : Nat) v w, Q (.panic c) (a.put (some m) v) w → Q (.panic c) a w)
    (hbn : w.heap[gn]? = some (.cells #[.int .i64 n0, .int .i64 n1, .int .i64 n2] ty (0, 0))) (hlb : u8_Label.f n1 = some lb) (htx : u8_Text.f n2 = some tx)
    {p0 p1 p2 p3 p5 p6 p7 p8 p9 p11 p12 p13 p14 p15 p16 p17 p18 p19 p20 p21 p22 p23 p24 p25 p26 p27 p28 p29 p30 p31 p32 p33 p34 p35 p36 p37 p38 p39 p40 p41 p42 p43 p44 p45 p46 p47 p48 p49 p50 p51 p52 p53 p54 p55 p56 p57 p58 p59 p60 p61 p62 p63 p64 p65 p66 p67 p68 p69 p70 p71 p72 p73 p74 p75 p76 p77 p78 p79 p80 p81 p82 p83 p84 p85 p86 p87 p88 p89 p90 p91 p92 p93 p94 p95 p96 p97 p98 p99 p100 p101 p102 p103 p104 p105 p106 p107 p108 p109 p110 p111 p112 p113 p114 p115 p116 p117 p118 p119 p120 p121 p122 p123 p124 p125 p126 p127 p128 p129 p130 p131 p132 p133 p134 p135 p136 p137 p138 p139 p140 p141 p142 p143 p144 p145 p146 p147 p148 p149 p150 p151 p152 p153 p154 p155 p156 p157 p158 p159 p160 p161 p162 p163 p164 p165 p166 p167 p168 p169 p170 p171 p172 p173 p174 p175 p176 p177 p178 p179 p180 p181 p182 p183 p184 p185 p186 p187 p188 p189 p190 p191 p192 p193 p194 p195 p196 p197 p198 p199 p200 p201 p202 p203 p204 p205 p206 p207 p208 p209 p210 p231 p232 p233 p234 p235 p236 p237 p238 p239 p240 p241 p242 p243 p244 p245 p246 p247 p248 p249 p250 p251 p252 p253 p254 p255 p256 p257 p258 p259 p260 p261 p262 p263 p264 p265 p266 p267 p268 p269 p270 p271 p272 p273 p274 p275 p276 p277 p278 p279 p280 p281 p282 p283 p284 p285 p286 p287 p288 p289 p290 p291 p292 p293 p294 p295 p296 p297 p298 p299 p300 p301 p302 p303 p304 p305 p306 p307 p308 p309 p310 p311 p312 p313 p314 p315 p316 p317 p318 p319 p320 p321 p322 p323 p324 : Value} {u211 u212 u213 u214 u215 u216 u217 u218 u219 u220 u221 u222 u223 u224 u225 u226 u227 u228 u229 u230 : Value}
    (hQ : ∀ (b17 : Nat) (v211 v212 v213 v214 v215 v216 v217 v218 v219 v220 v221 v222 v223 v224 v225 v226 v227 : Value) (W' : World), Below w.heap.size w W' → W'.heap[b17]? = some (.cells #[.string lb, .string tx, .string any, .string tx, .string lb, .string any] 63 (0, 0)) → Q .normal ⟨#[p0, p1, p2, p3, .string any, p5, p6, p7, p8, p9, .pointer (some ⟨gn, 0, none⟩), p11, p12, p13, p14, p15, p16, p17, p18, p19, p20, p21, p22, p23, p24, p25, p26, p27, p28, p29, p30, p31, p32, p33, p34, p35, p36, p37, p38, p39, p40, p41, p42, p43, p44, p45, p46, p47, p48, p49, p50, p51, p52, p53, p54, p55, p56, p57, p58, p59, p60, p61, p62, p63, p64, p65, p66, p67, p68, p69, p70, p71, p72, p73, p74, p75, p76, p77, p78, p79, p80, p81, p82, p83, p84, p85, p86, p87, p88, p89, p90, p91, p92, p93, p94, p95, p96, p97, p98, p99, p100, p101, p102, p103, p104, p105, p106, p107, p108, p109, p110, p111, p112, p113, p114, p115, p116, p117, p118, p119, p120, p121, p122, p123, p124, p125, p126, p127, p128, p129, p130, p131, p132, p133, p134, p135, p136, p137, p138, p139, p140, p141, p142, p143, p144, p145, p146, p147, p148, p149, p150, p151, p152, p153, p154, p155, p156, p157, p158, p159, p160, p161, p162, p163, p164, p165, p166, p167, p168, p169, p170, p171, p172, p173, p174, p175, p176, p177, p178, p179, p180, p181, p182, p183, p184, p185, p186, p187, p188, p189, p190, p191, p192, p193, p194, p195, p196, p197, p198, p199, p200, p201, p202, p203, p204, p205, p206, p207, p208, p209, p210, v211, v212, v213, v214, v215, v216, v217, v218, v219, v220, v221, v222, v223, v224, v225, v226, v227, .slice (some ⟨b17, 0, none⟩) 3 3, .int .i64 3, .int .i64 0, p231, p232, p233, p234, p235, p236, p237, p238, p239, p240, p241, p242, p243, p244, p245, p246, p247, p248, p249, p250, p251, p252, p253, p254, p255, p256, p257, p258, p259, p260, p261, p262, p263, p264, p265, p266, p267, p268, p269, p270, p271, p272, p273, p274, p275, p276, p277, p278, p279, p280, p281, p282, p283, p284, p285, p286, p287, p288, p289, p290, p291, p292, p293, p294, p295, p296, p297, p298, p299, p300, p301, p302, p303, p304, p305, p306, p307, p308, p309, p310, p311, p312, p313, p314, p315, p316, p317, p318, p319, p320, p321, p322, p323, p324], []⟩ W') :
    Code.wp Try.prog it34 Q ⟨#[p0, p1, p2, p3, .string any, p5, p6, p7, p8, p9, .pointer (some ⟨gn, 0, none⟩), p11, p12, p13, p14, p15, p16, p17, p18, p19, p20, p21, p22, p23, p24, p25, p26, p27, p28, p29, p30, p31, p32, p33, p34, p35, p36, p37, p38, p39, p40, p41, p42, p43, p44, p45, p46, p47, p48, p49, p50, p51, p52, p53, p54, p55, p56, p57, p58, p59, p60, p61, p62, p63, p64, p65, p66, p67, p68, p69, p70, p71, p72, p73, p74, p75, p76, p77, p78, p79, p80, p81, p82, p83, p84, p85, p86, p87, p88, p89, p90, p91, p92, p93, p94, p95, p96, p97, p98, p99, p100, p101, p102, p103, p104, p105, p106, p107, p108, p109, p110, p111, p112, p113, p114, p115, p116, p117, p118, p119, p120, p121, p122, p123, p124, p125, p126, p127, p128, p129, p130, p131, p132, p133, p134, p135, p136, p137, p138, p139, p140, p141, p142, p143, p144, p145, p146, p147, p148, p149, p150, p151, p152, p153, p154, p155, p156, p157, p158, p159, p160, p161, p162, p163, p164, p165, p166, p167, p168, p169, p170, p171, p172, p173, p174, p175, p176, p177, p178, p179, p180, p181, p182, p183, p184, p185, p186, p187, p188, p189, p190, p191, p192, p193, p194, p195, p196, p197, p198, p199, p200, p201, p202, p203, p204, p205, p206, p207, p208, p209, p210, u211, u212, u213, u214, u215, u216, u217, u218, u219, u220, u221, u222, u223, u224, u225, u226, u227, u228, u229, u230, p231, p232, p233, p234, p235, p236, p237, p238, p239, p240, p241, p242, p243, p244, p245, p246, p247, p248, p249, p250, p251, p252, p253, p254, p255, p256, p257, p258, p259, p260, p261, p262, p263, p264, p265, p266, p267, p268, p269, p270, p271, p272, p273, p274, p275, p276, p277, p278, p279, p280, p281, p282, p283, p284, p285, p286, p287, p288, p289, p290, p291, p292, p293, p294, p295, p296, p297, p298, p299, p300, p301, p302, p303, p304, p305, p306, p307, p308, p309, p310, p311, p312, p313, p314, p315, p316, p317, p318, p319, p320, p321, p322, p323, p324], []⟩ w := by
 conv => arg 2; whnf
 have HB := am (below_drew1 (Below.refl w.heap.size w))
 have BO := am (Go.Proofs.YtmkncddbecmlpaaW.PrintWords.bkD hbn)
 have HL := am hlb
 have HX := am htx
 clear hbn hlb htx
 refine start_ (n := 20) (S := fun w' => w'.cell? ⟨gn, 0, none⟩ = some (.int .i64 n0) ∧ w'.cell? ⟨gn, 1, none⟩ = some (.int .i64 n1) ∧ w'.cell? ⟨gn, 2, none⟩ = some (.int .i64 n2)) (ds := []) #[false, false, false, false, false, false, false, false, false, false, false, false, false, false, false, false, false, false, false, false] (by kernel_rfl) rfl rfl (bc3 BO) (fun hHeld => ?_); refine with_tabW it8.tab34 it8.bits34 (fun HT_ HW_ => ?_)
 generalize w.drew = w0 at HB BO hHeld ⊢
 refine pu_ 0 (some 211) HT_ rfl rfl (.inl ⟨by rfl, by intro w'; go_simp; with_reducible rfl⟩) (by simp only [Act.put, sa_, s0_, s1_, i64_w, i32_w]; rfl) ?_ (by kernel_rfl) (fun c a w h => hp c a _ _ w h)
 refine pu_ 3 (some 214) HT_ rfl rfl (.inl ⟨by rfl, by intro w'; go_simp; with_reducible rfl⟩) (by simp only [Act.put, sa_, s0_, s1_, i64_w, i32_w]; rfl) ?_ (by kernel_rfl) (fun c a w h => hp c a _ _ w h)
 refine pu_ 7 (some 218) HT_ rfl rfl (.inl ⟨by rfl, by intro w'; go_simp; with_reducible rfl⟩) (by simp only [Act.put, sa_, s0_, s1_, i64_w, i32_w]; rfl) ?_ (by kernel_rfl) (fun c a w h => hp c a _ _ w h)
 refine pu_ 8 (some 219) HT_ rfl rfl (.inl ⟨by rfl, by intro w'; go_simp; with_reducible rfl⟩) (by simp only [Act.put, sa_, s0_, s1_, i64_w, i32_w]; rfl) ?_ (by kernel_rfl) (fun c a w h => hp c a _ _ w h)
 refine pu_ 12 (some 223) HT_ rfl rfl (.inl ⟨by rfl, by intro w'; go_simp; with_reducible rfl⟩) (by simp only [Act.put, sa_, s0_, s1_, i64_w, i32_w]; rfl) ?_ (by kernel_rfl) (fun c a w h => hp c a _ _ w h)
 refine pu_ 15 (some 226) HT_ rfl rfl (.inl ⟨by rfl, by intro w'; go_simp; with_reducible rfl⟩) (by simp only [Act.put, sa_, s0_, s1_, i64_w, i32_w]; rfl) ?_ (by kernel_rfl) (fun c a w h => hp c a _ _ w h)
 refine pu_ 19 (some 230) HT_ rfl rfl (.inl ⟨by rfl, by intro w'; go_simp; with_reducible rfl⟩) (by simp only [Act.put, sa_, s0_, s1_, i64_w, i32_w]; rfl) ?_ (by kernel_rfl) (fun c a w h => hp c a _ _ w h)
 refine tk_ 1 (some 212) HT_ HW_ rfl rfl (.inl ⟨by rfl, by rintro w' ⟨s0, s1, s2⟩; go_simp; with_reducible rfl⟩) hHeld (by simp only [Act.put, sa_, s0_, s1_, i64_w, i32_w]; rfl) ?_ (by kernel_rfl) (fun c a w h => hp c a _ _ w h)
 refine tk_ 4 (some 215) HT_ HW_ rfl rfl (.inl ⟨by rfl, by rintro w' ⟨s0, s1, s2⟩; go_simp; with_reducible rfl⟩) hHeld (by simp only [Act.put, sa_, s0_, s1_, i64_w, i32_w]; rfl) ?_ (by kernel_rfl) (fun c a w h => hp c a _ _ w h)
 refine tk_ 9 (some 220) HT_ HW_ rfl rfl (.inl ⟨by rfl, by rintro w' ⟨s0, s1, s2⟩; go_simp; with_reducible rfl⟩) hHeld (by simp only [Act.put, sa_, s0_, s1_, i64_w, i32_w]; rfl) ?_ (by kernel_rfl) (fun c a w h => hp c a _ _ w h)
 refine tk_ 13 (some 224) HT_ HW_ rfl rfl (.inl ⟨by rfl, by rintro w' ⟨s0, s1, s2⟩; go_simp; with_reducible rfl⟩) hHeld (by simp only [Act.put, sa_, s0_, s1_, i64_w, i32_w]; rfl) ?_ (by kernel_rfl) (fun c a w h => hp c a _ _ w h)
 refine on_ 2 (some 213) HT_ rfl rfl (fun K hK => ?_)
 refine goes_ Try.func39 (by kernel_rfl) rfl #[.int .i64 n1] (by rfl) rfl rfl (by (try simp only [List.map_toArray, List.map_cons, List.map_nil]) <;> rfl) ?_
 refine (u8_Label.calls n1 lb _ HL.out).mono ?_
 rintro e W2 ⟨rfl, hb⟩
 refine ⟨_, rfl, ?_⟩
 have n0_ := am (below_step HB.out hb); have n1_ := am (blk_same BO.out hb); clear HB BO; have HB := n0_; have BO := n1_; clear n0_ n1_ hb
 refine hK.out _ _ (bc3 BO) (fun hHeld => ?_)
 clear hK K
 refine norm_ (by show Act.put _ (some 213) _ = _; simp only [Act.put, sa_, s0_, s1_, i64_w, i32_w]; rfl) ?_
 refine on_ 5 (some 216) HT_ rfl rfl (fun K hK => ?_)
 refine goes_ Try.func40 (by kernel_rfl) rfl #[.int .i64 n2] (by rfl) rfl rfl (by (try simp only [List.map_toArray, List.map_cons, List.map_nil]) <;> rfl) ?_
 refine (u8_Text.calls n2 tx _ HX.out).mono ?_
 rintro e W2 ⟨rfl, hb⟩
 refine ⟨_, rfl, ?_⟩
 have n0_ := am (below_step HB.out hb); have n1_ := am (blk_same BO.out hb); clear HB BO; have HB := n0_; have BO := n1_; clear n0_ n1_ hb
 refine hK.out _ _ (bc3 BO) (fun hHeld => ?_)
 clear hK K
 refine norm_ (by show Act.put _ (some 216) _ = _; simp only [Act.put, sa_, s0_, s1_, i64_w, i32_w]; rfl) ?_
 refine pu_ 6 (some 217) HT_ rfl rfl (.inl ⟨by rfl, by intro w'; go_simp; with_reducible rfl⟩) (by simp only [Act.put, sa_, s0_, s1_, i64_w, i32_w]; rfl) ?_ (by kernel_rfl) (fun c a w h => hp c a _ _ w h)
 refine on_ 10 (some 221) HT_ rfl rfl (fun K hK => ?_)
 refine goes_ Try.func40 (by kernel_rfl) rfl #[.int .i64 n2] (by rfl) rfl rfl (by (try simp only [List.map_toArray, List.map_cons, List.map_nil]) <;> rfl) ?_
 refine (u8_Text.calls n2 tx _ HX.out).mono ?_
 rintro e W2 ⟨rfl, hb⟩
 refine ⟨_, rfl, ?_⟩
 have n0_ := am (below_step HB.out hb); have n1_ := am (blk_same BO.out hb); clear HB BO; have HB := n0_; have BO := n1_; clear n0_ n1_ hb
 refine hK.out _ _ (bc3 BO) (fun hHeld => ?_)
 clear hK K
 refine norm_ (by show Act.put _ (some 221) _ = _; simp only [Act.put, sa_, s0_, s1_, i64_w, i32_w]; rfl) ?_
 refine pu_ 11 (some 222) HT_ rfl rfl (.inl ⟨by rfl, by intro w'; go_simp; with_reducible rfl⟩) (by simp only [Act.put, sa_, s0_, s1_, i64_w, i32_w]; rfl) ?_ (by kernel_rfl) (fun c a w h => hp c a _ _ w h)
 refine on_ 14 (some 225) HT_ rfl rfl (fun K hK => ?_)
 refine goes_ Try.func39 (by kernel_rfl) rfl #[.int .i64 n1] (by rfl) rfl rfl (by (try simp only [List.map_toArray, List.map_cons, List.map_nil]) <;> rfl) ?_
 refine (u8_Label.calls n1 lb _ HL.out).mono ?_
 rintro e W2 ⟨rfl, hb⟩
 refine ⟨_, rfl, ?_⟩
 have n0_ := am (below_step HB.out hb); have n1_ := am (blk_same BO.out hb); clear HB BO; have HB := n0_; have BO := n1_; clear n0_ n1_ hb
 refine hK.out _ _ (bc3 BO) (fun hHeld => ?_)
 clear hK K
 refine norm_ (by show Act.put _ (some 225) _ = _; simp only [Act.put, sa_, s0_, s1_, i64_w, i32_w]; rfl) ?_
 refine pu_ 16 (some 227) HT_ rfl rfl (.inl ⟨by rfl, by intro w'; go_simp; with_reducible rfl⟩) (by simp only [Act.put, sa_, s0_, s1_, i64_w, i32_w]; rfl) ?_ (by kernel_rfl) (fun c a w h => hp c a _ _ w h)
 refine on_ 17 (some 228) HT_ rfl rfl (fun K hK => ?_)
 refine row_step ?hg (N := 228) ?hd (n := 3) (cs := #[.string lb, .string tx, .string any, .string tx, .string lb, .string any]) (t := 63) ?hr ?_; (case hd => rfl); (case hg => rfl); (case hr => first | (go_simp; done) | (go_simp; rfl))
 intro b17 hg17 W2 h17 hb
 have B17 := am h17; clear h17 hg17
 have n0_ := am (below_step HB.out hb); have n1_ := am (blk_same BO.out hb); clear HB BO; have HB := n0_; have BO := n1_; clear n0_ n1_ hb
 refine hK.out _ _ (bc3 BO) (fun hHeld => ?_)
 clear hK K
 refine norm_ (by show Act.put _ (some 228) _ = _; simp only [Act.put, sa_, s0_, s1_, i64_w, i32_w]; rfl) ?_
 refine pu_ 18 (some 229) HT_ rfl rfl (.inl ⟨by rfl, by intro w'; go_simp; with_reducible rfl⟩) (by simp only [Act.put, sa_, s0_, s1_, i64_w, i32_w]; rfl) ?_ (by kernel_rfl) (fun c a w h => hp c a _ _ w h)
 refine done_ (done_of HT_.out (by kernel_rfl)) ?_
 exact hQ _ _ _ _ _ _ _ _ _ _ _ _ _ _ _ _ _ _ _ HB.out B17.out
end Go.Proofs.Ytmkncddbecmlpaa.Pr
end
section
namespace Go.Proofs.Ytmkncddbecmlpaa.Pr
open Go.RowKit Go.Shelf Go.Proofs.Ytmkncddbecmlpaa.XB Go.Proofs.YtmkncddbecmlpaaW.PrintWords
attribute [local go_sem] Oper.semAt_some
set_option linter.unusedVariables false
set_option linter.unusedSimpArgs false
set_option maxRecDepth 100000
theorem two_txt {w : World} {g : Nat} {a b : ByteArray} {t : TypeId} (h : w.heap[g]? = some (.cells #[.string a, .string b] t (0, 0))) (i : Nat) (hi : i < 2) : ∃ s, w.cell? ⟨g, i, none⟩ = some (.string s) := by
  have : i = 0 ∨ i = 1 := by omega
  rcases this with rfl | rfl
  · exact ⟨a, (blk_cell h 0).trans rfl⟩
  · exact ⟨b, (blk_cell h 1).trans rfl⟩
theorem three_pairs {w : World} {g : Nat} {a b c d e f : ByteArray} {t : TypeId} (h : w.heap[g]? = some (.cells #[.string a, .string b, .string c, .string d, .string e, .string f] t (0, 0))) (i : Nat) (hi : i < 3) :
    ∃ x y, w.cell? ⟨g, i * 2, none⟩ = some (.string x) ∧ w.cell? ⟨g, i * 2 + 1, none⟩ = some (.string y) := by
  have : i = 0 ∨ i = 1 ∨ i = 2 := by omega
  rcases this with rfl | rfl | rfl
  · exact ⟨a, b, (blk_cell h 0).trans rfl, (blk_cell h 1).trans rfl⟩
  · exact ⟨c, d, (blk_cell h 2).trans rfl, (blk_cell h 3).trans rfl⟩
  · exact ⟨e, f, (blk_cell h 4).trans rfl, (blk_cell h 5).trans rfl⟩
noncomputable def it3body : Code := (Try.f8.body.map fun c => (allLoops c).getD 0 .skip).getD .skip
set_option maxHeartbeats 8000000 in
theorem it3_round {K : Act → World → Prop} {Q : Exit → Act → World → Prop} (j g c gn : Nat) (hj : j < 2) {any lb tx : ByteArray} {n0 n1 n2 : Int} {ty : TypeId} {b : ByteArray} {a : Int} {ns : List S72} {cs : List S74} {cl : Bool} {A0 A1 : Option Addr} {c0 c1 : Nat} (wq : World) (hp : ∀ c a (m : Nat) v w, Q (.panic c) (a.put (some m) v) w → Q (.panic c) a w)
    (hlb : u8_Label.f n1 = some lb) (htx : u8_Text.f n2 = some tx) {pk : Int} (hpk : u8_pick.f n1 6 = some pk) (pk0 : 0 ≤ pk) (pk6 : pk < 6)
    (hr0 : wq.cell? ⟨g, j * 5, none⟩ = some (.string b)) (hr1 : wq.cell? ⟨g, j * 5 + 1, none⟩ = some (.int .i64 a)) (hr2 : wq.cell? ⟨g, j * 5 + 2, none⟩ = some (.slice A0 ns.length c0)) (hr3 : wq.cell? ⟨g, j * 5 + 3, none⟩ = some (.slice A1 cs.length c1)) (hr4 : wq.cell? ⟨g, j * 5 + 4, none⟩ = some (.bool cl))
    (hbn : wq.heap[gn]? = some (.cells #[.int .i64 n0, .int .i64 n1, .int .i64 n2] ty (0, 0)))
    (hns : Kd.C k72 wq A0 ns.length ns) (hc0 : ns.length ≤ c0) (hcs : Kd.C k74 wq A1 cs.length cs) (hc1 : cs.length ≤ c1) (hl0 : ns.length ≤ 18) (hl1 : cs.length ≤ 18)
    {p0 p1 p2 p3 p5 p6 p7 p8 p9 p11 p12 p13 p15 p16 p17 p18 p19 p20 p21 p22 p23 p24 p25 p26 p27 p29 p37 p53 p54 p55 p56 p57 p58 p59 p60 p61 p62 p63 p64 p65 p66 p67 p68 p69 p70 p71 p72 p73 p74 p75 p76 p77 p78 p79 p80 p81 p82 p83 p84 p85 p86 p87 p88 p89 p90 p91 p92 p93 p94 p95 p96 p97 p98 p99 p100 p101 p102 p103 p104 p105 p106 p107 p108 p109 p110 p111 p112 p113 p114 p115 p116 p117 p118 p119 p120 p121 p122 p123 p124 p125 p126 p127 p128 p129 p130 p131 p132 p133 p134 p135 p136 p137 p138 p139 p140 p141 p142 p143 p144 p145 p146 p147 p148 p149 p150 p151 p152 p153 p154 p155 p324 : Value} {u14 u28 u30 u31 u32 u33 u34 u35 u36 u38 u39 u40 u41 u42 u43 u44 u45 u46 u47 u48 u49 u50 u51 u52 u159 u160 u161 u162 u163 u164 u165 u166 u167 u168 u169 u170 u171 u172 u173 u174 u175 u176 u177 u178 u179 u180 u181 u182 u183 u184 u185 u186 u187 u188 u189 u190 u191 u192 u193 u194 u195 u196 u197 u198 u199 u200 u201 u202 u203 u204 u205 u206 u207 u208 u209 u210 u211 u212 u213 u214 u215 u216 u217 u218 u219 u220 u221 u222 u223 u224 u225 u226 u227 u228 u229 u230 u231 u232 u233 u234 u235 u236 u237 u238 u239 u240 u241 u242 u243 u244 u245 u246 u247 u248 u249 u250 u251 u252 u253 u254 u255 u256 u257 u258 u259 u260 u261 u262 u263 u264 u265 u266 u267 u268 u269 u270 u271 u272 u273 u274 u275 u276 u277 u278 u279 u280 u281 u282 u283 u284 u285 u286 u287 u288 u289 u290 u291 u292 u293 u294 u295 u296 u297 u298 u299 u300 u301 u302 u303 u304 u305 u306 u307 u308 u309 u310 u311 u312 u313 u314 u315 u316 u317 u318 u319 u320 u321 u322 u323 : Value}
    (hK : ∀ (v14 v28 v30 v31 v32 v33 v34 v35 v36 v38 v39 v40 v41 v42 v43 v44 v45 v46 v47 v48 v49 v50 v51 v52 v159 v160 v161 v162 v163 v164 v165 v166 v167 v168 v169 v170 v171 v172 v173 v174 v175 v176 v177 v178 v179 v180 v181 v182 v183 v184 v185 v186 v187 v188 v189 v190 v191 v192 v193 v194 v195 v196 v197 v198 v199 v200 v201 v202 v203 v204 v205 v206 v207 v208 v209 v210 v211 v212 v213 v214 v215 v216 v217 v218 v219 v220 v221 v222 v223 v224 v225 v226 v227 v228 v229 v230 v231 v232 v233 v234 v235 v236 v237 v238 v239 v240 v241 v242 v243 v244 v245 v246 v247 v248 v249 v250 v251 v252 v253 v254 v255 v256 v257 v258 v259 v260 v261 v262 v263 v264 v265 v266 v267 v268 v269 v270 v271 v272 v273 v274 v275 v276 v277 v278 v279 v280 v281 v282 v283 v284 v285 v286 v287 v288 v289 v290 v291 v292 v293 v294 v295 v296 v297 v298 v299 v300 v301 v302 v303 v304 v305 v306 v307 v308 v309 v310 v311 v312 v313 v314 v315 v316 v317 v318 v319 v320 v321 v322 v323 : Value) (W' : World), Below wq.heap.size wq W' → K ⟨#[p0, p1, p2, p3, .string any, p5, p6, p7, p8, p9, .pointer (some ⟨gn, 0, none⟩), p11, p12, p13, v14, p15, p16, p17, p18, p19, p20, p21, p22, p23, p24, p25, p26, p27, v28, p29, v30, v31, v32, v33, v34, v35, v36, p37, v38, v39, v40, v41, v42, v43, v44, v45, v46, v47, v48, v49, v50, v51, v52, p53, p54, p55, p56, p57, p58, p59, p60, p61, p62, p63, p64, p65, p66, p67, p68, p69, p70, p71, p72, p73, p74, p75, p76, p77, p78, p79, p80, p81, p82, p83, p84, p85, p86, p87, p88, p89, p90, p91, p92, p93, p94, p95, p96, p97, p98, p99, p100, p101, p102, p103, p104, p105, p106, p107, p108, p109, p110, p111, p112, p113, p114, p115, p116, p117, p118, p119, p120, p121, p122, p123, p124, p125, p126, p127, p128, p129, p130, p131, p132, p133, p134, p135, p136, p137, p138, p139, p140, p141, p142, p143, p144, p145, p146, p147, p148, p149, p150, p151, p152, p153, p154, p155, .slice (some ⟨g, 0, none⟩) 2 c, .int .i64 2, .int .i64 ((j : Int) + 1), v159, v160, v161, v162, v163, v164, v165, v166, v167, v168, v169, v170, v171, v172, v173, v174, v175, v176, v177, v178, v179, v180, v181, v182, v183, v184, v185, v186, v187, v188, v189, v190, v191, v192, v193, v194, v195, v196, v197, v198, v199, v200, v201, v202, v203, v204, v205, v206, v207, v208, v209, v210, v211, v212, v213, v214, v215, v216, v217, v218, v219, v220, v221, v222, v223, v224, v225, v226, v227, v228, v229, v230, v231, v232, v233, v234, v235, v236, v237, v238, v239, v240, v241, v242, v243, v244, v245, v246, v247, v248, v249, v250, v251, v252, v253, v254, v255, v256, v257, v258, v259, v260, v261, v262, v263, v264, v265, v266, v267, v268, v269, v270, v271, v272, v273, v274, v275, v276, v277, v278, v279, v280, v281, v282, v283, v284, v285, v286, v287, v288, v289, v290, v291, v292, v293, v294, v295, v296, v297, v298, v299, v300, v301, v302, v303, v304, v305, v306, v307, v308, v309, v310, v311, v312, v313, v314, v315, v316, v317, v318, v319, v320, v321, v322, v323, p324], []⟩ W') :
    Code.wp Try.prog it3body (Exit.then K Q) ⟨#[p0, p1, p2, p3, .string any, p5, p6, p7, p8, p9, .pointer (some ⟨gn, 0, none⟩), p11, p12, p13, u14, p15, p16, p17, p18, p19, p20, p21, p22, p23, p24, p25, p26, p27, u28, p29, u30, u31, u32, u33, u34, u35, u36, p37, u38, u39, u40, u41, u42, u43, u44, u45, u46, u47, u48, u49, u50, u51, u52, p53, p54, p55, p56, p57, p58, p59, p60, p61, p62, p63, p64, p65, p66, p67, p68, p69, p70, p71, p72, p73, p74, p75, p76, p77, p78, p79, p80, p81, p82, p83, p84, p85, p86, p87, p88, p89, p90, p91, p92, p93, p94, p95, p96, p97, p98, p99, p100, p101, p102, p103, p104, p105, p106, p107, p108, p109, p110, p111, p112, p113, p114, p115, p116, p117, p118, p119, p120, p121, p122, p123, p124, p125, p126, p127, p128, p129, p130, p131, p132, p133, p134, p135, p136, p137, p138, p139, p140, p141, p142, p143, p144, p145, p146, p147, p148, p149, p150, p151, p152, p153, p154, p155, .slice (some ⟨g, 0, none⟩) 2 c, .int .i64 2, .int .i64 (j : Int), u159, u160, u161, u162, u163, u164, u165, u166, u167, u168, u169, u170, u171, u172, u173, u174, u175, u176, u177, u178, u179, u180, u181, u182, u183, u184, u185, u186, u187, u188, u189, u190, u191, u192, u193, u194, u195, u196, u197, u198, u199, u200, u201, u202, u203, u204, u205, u206, u207, u208, u209, u210, u211, u212, u213, u214, u215, u216, u217, u218, u219, u220, u221, u222, u223, u224, u225, u226, u227, u228, u229, u230, u231, u232, u233, u234, u235, u236, u237, u238, u239, u240, u241, u242, u243, u244, u245, u246, u247, u248, u249, u250, u251, u252, u253, u254, u255, u256, u257, u258, u259, u260, u261, u262, u263, u264, u265, u266, u267, u268, u269, u270, u271, u272, u273, u274, u275, u276, u277, u278, u279, u280, u281, u282, u283, u284, u285, u286, u287, u288, u289, u290, u291, u292, u293, u294, u295, u296, u297, u298, u299, u300, u301, u302, u303, u304, u305, u306, u307, u308, u309, u310, u311, u312, u313, u314, u315, u316, u317, u318, u319, u320, u321, u322, u323, p324], []⟩ wq := by
  conv => arg 2; whnf
  have HK := Lib.hid hK
  have j0 : (j : Int) < 2 := by omega
  have HB : Hid (Below wq.heap.size wq wq) := Lib.hid (Below.refl _ _)
  have BN := Lib.hid hbn
  have HPK := Lib.hid (fun W => (u8_pick.calls n1 6 pk W hpk).mono (fun e w' h => (⟨h.1, h.2.below⟩ : e = .returned (.int .i64 pk) ∧ Below W.heap.size W w')))
  have HF := Lib.hid (And.intro hns (And.intro hc0 (And.intro hcs hc1)))
  have bn_0 := (fun o : Obj => (blk_cell (bkA hbn o) 0).trans rfl)
  have bn_1 := (fun o : Obj => (blk_cell (bkA hbn o) 1).trans rfl)
  have bn_2 := (fun o : Obj => (blk_cell (bkA hbn o) 2).trans rfl)
  clear hK hbn hns hc0 hcs hc1 hpk
  go_wp2_with (first | (go_at_call 34; with_reducible refine (HPK.out _).mono ?_; rintro e Z ⟨rfl, hb⟩; have ZB := Lib.hid (below_step (below_alloc HB.out (.cells #[.string b, .int .i64 a, .slice A0 ns.length c0, .slice A1 cs.length c1, .bool cl] 50)) hb); have BZ := Lib.hid (blk_same (heap_alloc_new wq (.cells #[.string b, .int .i64 a, .slice A0 ns.length c0, .slice A1 cs.length c1, .bool cl] 50)) hb); have NZ := Lib.hid (blk_same (bkA BN.out (.cells #[.string b, .int .i64 a, .slice A0 ns.length c0, .slice A1 cs.length c1, .bool cl] 50)) hb); have hcv := run_convert_bytes_arg (P := Try.prog) (Z.alloc (.cells #[.int .u8 pk] 5)) 57 5 Try.underlying57 Try.underlying5 Z.heap.size 0 1 1 [pk] rfl (fun j hj => by cases j with | zero => exact (blk_cell (heap_alloc_new Z _) 0).trans rfl | succ n => simp at hj) 9 Try.underlying9; clear hb))
  clear hcv
  generalize strOfNums [pk] = s1
  generalize hL : World.alloc (World.alloc Z _) _ = L
  have LB0 : Below Z.heap.size Z L := by rw [← hL]; exact below_alloc (below_alloc (Below.refl _ _) _) _
  have RL := Lib.hid (show L.heap[Z.heap.size + 1]? = some (.cells #[.string any, .string s1] 9 (0, 0)) by rw [← hL]; have h := heap_alloc_new (World.alloc Z (.cells #[.int .u8 pk] 5)) (.cells #[.string any, .string s1] 9); rwa [World.size_alloc] at h)
  have BL := Lib.hid (blk_same BZ.out LB0)
  have NL := Lib.hid (blk_same NZ.out LB0)
  have LB := Lib.hid (ZB.out.trans (LB0.mono ZB.out.size))
  clear hL LB0 BZ NZ ZB BN HPK bn_0 bn_1 bn_2
  go_loopw [171] (fun v X => ∃ i : Nat, i ≤ 2 ∧ v = .int .i64 (i : Int) ∧ Below L.heap.size L X) (fun v _ => 2 - (intOf v).toNat)
  case atStart => exact ⟨0, by omega, rfl, Below.refl _ _⟩
  case round =>
    obtain ⟨i, hi, rfl, hXi⟩ := hrel
    have XiB := Lib.hid (LB.out.trans (hXi.mono LB.out.size))
    have BXi := Lib.hid (blk_same BL.out hXi)
    have NXi := Lib.hid (blk_same NL.out hXi)
    have RXi := blk_same RL.out hXi
    by_cases hlt : i < 2
    · obtain ⟨s, hrow⟩ := two_txt RXi i hlt
      refine it1_round i (Z.heap.size + 1) 2 wq.heap.size hlt s _ hrow BXi.out (Kd.C_below HF.out.1 XiB.out) HF.out.2.1 (Kd.C_below HF.out.2.2.1 XiB.out) HF.out.2.2.2 hl0 hl1 ?_
      intro v30 v31 v32 v33 v34 v35 v36 v172 v173 v174 v175 v176 v177 v178 v179 v180 v181 v182 v183 v184 v185 v186 v187 v188 v189 v190 v191 v192 v193 v194 v195 v196 v197 v198 v199 v200 v201 v202 v203 v204 v205 v206 v207 v208 v209 v210 W' hB'
      refine ⟨⟨_, _, _, _, _, _, _, _, _, _, _, _, _, _, _, _, _, _, _, _, _, _, _, _, _, _, _, _, _, _, _, _, _, _, _, _, _, _, _, _, _, _, _, _, _, _, _, _, ⟨i + 1, ?_, ?_, hXi.trans (hB'.mono hXi.size)⟩, rfl⟩, ?_⟩
      · omega
      · exact congrArg (Value.int .i64) (by omega)
      · simp [intOf]; omega
    · obtain rfl : i = 2 := by omega
      have e4 : ((2 : Nat) : Int) = 2 := rfl
      rw [e4]
      clear e4 RXi
      go_wp2
      refine it_r34 gn _ (by exact fun c a m v w h => hp c a m v w h) NXi.out hlb htx ?_
      intro b17 v211 v212 v213 v214 v215 v216 v217 v218 v219 v220 v221 v222 v223 v224 v225 v226 v227 W3 hW3 h17
      have W3B := Lib.hid (XiB.out.trans (hW3.mono XiB.out.size))
      have BW3 := Lib.hid (blk_same BXi.out hW3)
      have RW3 := Lib.hid h17
      clear hW3 h17 XiB BXi NXi hXi RL BL NL LB
      go_wp2
      go_loopw [230] (fun v X => ∃ i : Nat, i ≤ 3 ∧ v = .int .i64 (i : Int) ∧ Below W3.heap.size W3 X) (fun v _ => 3 - (intOf v).toNat)
      case atStart => exact ⟨0, by omega, rfl, Below.refl _ _⟩
      case round =>
        obtain ⟨i, hi, rfl, hXi⟩ := hrel
        have XiB := Lib.hid (W3B.out.trans (hXi.mono W3B.out.size))
        have BXi := Lib.hid (blk_same BW3.out hXi)
        have RXi := blk_same RW3.out hXi
        by_cases hlt : i < 3
        · obtain ⟨l, t, hr0, hr1⟩ := three_pairs RXi i hlt
          refine it2_round i b17 3 wq.heap.size hlt l t _ hr0 hr1 BXi.out (Kd.C_below HF.out.1 XiB.out) HF.out.2.1 (Kd.C_below HF.out.2.2.1 XiB.out) HF.out.2.2.2 hl0 hl1 ?_
          intro v38 v39 v40 v41 v42 v43 v44 v45 v46 v47 v48 v49 v50 v51 v52 v231 v232 v233 v234 v235 v236 v237 v238 v239 v240 v241 v242 v243 v244 v245 v246 v247 v248 v249 v250 v251 v252 v253 v254 v255 v256 v257 v258 v259 v260 v261 v262 v263 v264 v265 v266 v267 v268 v269 v270 v271 v272 v273 v274 v275 v276 v277 v278 v279 v280 v281 v282 v283 v284 v285 v286 v287 v288 v289 v290 v291 v292 v293 v294 v295 v296 v297 v298 v299 v300 v301 v302 v303 v304 v305 v306 v307 v308 v309 v310 v311 v312 v313 v314 v315 v316 v317 v318 v319 v320 v321 v322 W' hB'
          refine ⟨⟨_, _, _, _, _, _, _, _, _, _, _, _, _, _, _, _, _, _, _, _, _, _, _, _, _, _, _, _, _, _, _, _, _, _, _, _, _, _, _, _, _, _, _, _, _, _, _, _, _, _, _, _, _, _, _, _, _, _, _, _, _, _, _, _, _, _, _, _, _, _, _, _, _, _, _, _, _, _, _, _, _, _, _, _, _, _, _, _, _, _, _, _, _, _, _, _, _, _, _, _, _, _, _, _, _, _, _, _, _, ⟨i + 1, ?_, ?_, hXi.trans (hB'.mono hXi.size)⟩, rfl⟩, ?_⟩
          · omega
          · exact congrArg (Value.int .i64) (by omega)
          · simp [intOf]; omega
        · obtain rfl : i = 3 := by omega
          have e4 : ((3 : Nat) : Int) = 3 := rfl
          rw [e4]
          clear e4 RXi hXi BXi
          have HLB := Lib.hid XiB.out
          clear XiB
          go_wp2
          exact HK.out _ _ _ _ _ _ _ _ _ _ _ _ _ _ _ _ _ _ _ _ _ _ _ _ _ _ _ _ _ _ _ _ _ _ _ _ _ _ _ _ _ _ _ _ _ _ _ _ _ _ _ _ _ _ _ _ _ _ _ _ _ _ _ _ _ _ _ _ _ _ _ _ _ _ _ _ _ _ _ _ _ _ _ _ _ _ _ _ _ _ _ _ _ _ _ _ _ _ _ _ _ _ _ _ _ _ _ _ _ _ _ _ _ _ _ _ _ _ _ _ _ _ _ _ _ _ _ _ _ _ _ _ _ _ _ _ _ _ _ _ _ _ _ _ _ _ _ _ _ _ _ _ _ _ _ _ _ _ _ _ _ _ _ _ _ _ _ _ _ _ _ _ _ _ _ _ _ _ _ _ _ _ _ _ _ _ _ _ _ _ HLB.out
end Go.Proofs.Ytmkncddbecmlpaa.Pr
end
section
namespace Go.Proofs.Ytmkncddbecmlpaa.Pr
open Go.Proofs.Ytmkncddbecmlpaa.Sq Go.RowKit Go.Shelf Go.Proofs.Ytmkncddbecmlpaa.XB Go.Proofs.YtmkncddbecmlpaaW.PrintWords Go.Proofs.YtmkncddbecmlpaaW.PrintLast Go.Proofs.YtmkncddbecmlpaaW.PrintMore
set_option linter.unusedVariables false
set_option linter.unusedSimpArgs false
set_option maxRecDepth 100000
theorem C_pre {α : Type} {d : Kd α} {w : World} {A : Option Addr} {xs : List α} {m : Nat} (h : Kd.C d w A xs.length xs) (hm : m ≤ xs.length) : Kd.C d w A m (xs.take m) := by
  refine ⟨by rw [List.length_take]; omega, by have := h.2.1; omega, fun h0 => ?_⟩
  obtain ⟨ad, e, f⟩ := h.2.2 (by omega)
  refine ⟨ad, e, fun j s hj => f j s ?_⟩
  rw [List.getElem?_take] at hj
  split at hj
  · exact hj
  · cases hj
def it8.T18 : Bool × List (List Nat × List Nat) := (true, [([], []), ([0], [0]), ([1], [1]), ([], []), ([3], [3]), ([], []), ([5], [5]), ([6], [6]), ([7], [7]), ([4, 8], [4, 8]), ([2, 9, 2], [2, 9]), ([0, 1, 2, 3, 4, 5, 6, 7, 8, 9, 10], []), ([11, 10, 10, 0, 1, 2, 3, 4, 5, 6, 7, 8, 9, 10], [10, 11])])
def it8.B18 : List Nat := [0, 1, 3, 0, 8, 0, 32, 96, 224, 504, 1023, 2047, 4095]
theorem it8.tab18 : rtab .any (opsOf Try.f8 18) = it8.T18 := by kernel_rfl
theorem it8.bits18 : waitsOk it8.T18.2 it8.B18 = true := by kernel_rfl
noncomputable def it18 : Code := ((Try.f8.body.bind fun c => regionIn c 18)).getD .skip
set_option maxHeartbeats 8000000 in
theorem it_r18 {Q : Exit → Act → World → Prop} (gd gz go : Nat) {b ob : ByteArray} {a oa : Int} {ns on : List S72} {cs oc : List S74} {cl ocl : Bool} {A0 A1 B0 B1 : Option Addr} {c0 c1 d0 d1 m : Nat} (W0 w : World) (hp : ∀ c a (m : Nat) v w, Q (.panic c) (a.put (some m) v) w → Q (.panic c) a w)
    (hb0 : Below W0.heap.size W0 w) (hgz : W0.heap.size ≤ gz) (hbd : w.heap[gd]? = some (.cells #[.string b, .int .i64 a, .slice A0 ns.length c0, .slice A1 cs.length c1, .bool cl] 50 (0, 0))) (hbz : w.heap[gz]? = some (.cells #[.string b, .int .i64 a, .slice A0 ns.length c0, .slice A1 cs.length c1, .bool cl] 50 (0, 0))) (hbo : w.heap[go]? = some (.cells #[.string ob, .int .i64 oa, .slice B0 on.length d0, .slice B1 oc.length d1, .bool ocl] 50 (0, 0)))
    (hC : Kd.C k72 w A0 ns.length ns) (hco : Kd.C k72 w B0 on.length on) (hld : on.length ≤ d0) (hm : (if (3 : Int) < (on.length : Int) then (3 : Int) else (on.length : Int)) = (m : Int)) (hm1 : m ≤ on.length) (hl : ns.length + m ≤ 1000)
    (hR0 : Kd.R k72 72 w W0.heap.size (fun _ => True) (.slice A0 ns.length c0) ns) (hR1 : Kd.R k74 74 w W0.heap.size (fun _ => True) (.slice A1 cs.length c1) cs)
    {p0 p1 p2 p3 p4 p5 p6 p7 p8 p9 p10 p11 p13 p14 p15 p16 p17 p18 p19 p20 p21 p22 p23 p24 p27 p28 p29 p30 p31 p32 p33 p34 p35 p36 p37 p38 p39 p40 p41 p42 p43 p44 p45 p46 p47 p48 p49 p50 p51 p52 p53 p54 p55 p56 p57 p58 p59 p60 p61 p62 p63 p64 p65 p66 p67 p68 p69 p70 p71 p72 p73 p74 p75 p76 p77 p78 p79 p80 p81 p82 p83 p84 p85 p86 p87 p88 p89 p90 p91 p92 p93 p94 p95 p96 p97 p98 p99 p100 p101 p102 p103 p104 p105 p106 p107 p108 p109 p110 p111 p112 p113 p114 p115 p116 p117 p118 p119 p120 p121 p134 p135 p136 p137 p138 p139 p140 p141 p142 p143 p144 p145 p146 p147 p148 p149 p150 p151 p152 p153 p154 p155 p156 p157 p158 p159 p160 p161 p162 p163 p164 p165 p166 p167 p168 p169 p170 p171 p172 p173 p174 p175 p176 p177 p178 p179 p180 p181 p182 p183 p184 p185 p186 p187 p188 p189 p190 p191 p192 p193 p194 p195 p196 p197 p198 p199 p200 p201 p202 p203 p204 p205 p206 p207 p208 p209 p210 p211 p212 p213 p214 p215 p216 p217 p218 p219 p220 p221 p222 p223 p224 p225 p226 p227 p228 p229 p230 p231 p232 p233 p234 p235 p236 p237 p238 p239 p240 p241 p242 p243 p244 p245 p246 p247 p248 p249 p250 p251 p252 p253 p254 p255 p256 p257 p258 p259 p260 p261 p262 p263 p264 p265 p266 p267 p268 p269 p270 p271 p272 p273 p274 p275 p276 p277 p278 p279 p280 p281 p282 p283 p284 p285 p286 p287 p288 p289 p290 p291 p292 p293 p294 p295 p296 p297 p298 p299 p300 p301 p302 p303 p304 p305 p306 p307 p308 p309 p310 p311 p312 p313 p314 p315 p316 p317 p318 p319 p320 p321 p322 p323 p324 : Value} {u122 u123 u124 u125 u126 u127 u128 u129 u130 u131 u132 u133 : Value}
    (hQ : ∀ (Ax : Option Addr) (cx : Nat) (xs : List S72) (v122 v123 v124 v125 v126 v127 v128 v129 v130 v131 v132 v133 : Value) (W' : World), xs = ns ++ on.take m → Below W0.heap.size W0 W' → W'.heap[gz]? = some (.cells #[.string b, .int .i64 a, .slice Ax xs.length cx, .slice A1 cs.length c1, .bool cl] 50 (0, 0)) → (∀ g o, g ≠ gz → w.heap[g]? = some o → W'.heap[g]? = some o) → Kd.C k72 W' Ax xs.length xs → xs.length ≤ cx → Kd.R k72 72 W' W0.heap.size (fun _ => True) (.slice A0 ns.length c0) ns → Kd.R k74 74 W' W0.heap.size (fun _ => True) (.slice A1 cs.length c1) cs → Q .normal ⟨#[p0, p1, p2, p3, p4, p5, p6, p7, p8, p9, p10, p11, .pointer (some ⟨go, 0, none⟩), p13, p14, p15, p16, p17, p18, p19, p20, p21, p22, p23, p24, .pointer (some ⟨gd, 0, none⟩), .pointer (some ⟨gz, 0, none⟩), p27, p28, p29, p30, p31, p32, p33, p34, p35, p36, p37, p38, p39, p40, p41, p42, p43, p44, p45, p46, p47, p48, p49, p50, p51, p52, p53, p54, p55, p56, p57, p58, p59, p60, p61, p62, p63, p64, p65, p66, p67, p68, p69, p70, p71, p72, p73, p74, p75, p76, p77, p78, p79, p80, p81, p82, p83, p84, p85, p86, p87, p88, p89, p90, p91, p92, p93, p94, p95, p96, p97, p98, p99, p100, p101, p102, p103, p104, p105, p106, p107, p108, p109, p110, p111, p112, p113, p114, p115, p116, p117, p118, p119, p120, p121, v122, v123, v124, v125, v126, v127, v128, v129, v130, v131, v132, v133, p134, p135, p136, p137, p138, p139, p140, p141, p142, p143, p144, p145, p146, p147, p148, p149, p150, p151, p152, p153, p154, p155, p156, p157, p158, p159, p160, p161, p162, p163, p164, p165, p166, p167, p168, p169, p170, p171, p172, p173, p174, p175, p176, p177, p178, p179, p180, p181, p182, p183, p184, p185, p186, p187, p188, p189, p190, p191, p192, p193, p194, p195, p196, p197, p198, p199, p200, p201, p202, p203, p204, p205, p206, p207, p208, p209, p210, p211, p212, p213, p214, p215, p216, p217, p218, p219, p220, p221, p222, p223, p224, p225, p226, p227, p228, p229, p230, p231, p232, p233, p234, p235, p236, p237, p238, p239, p240, p241, p242, p243, p244, p245, p246, p247, p248, p249, p250, p251, p252, p253, p254, p255, p256, p257, p258, p259, p260, p261, p262, p263, p264, p265, p266, p267, p268, p269, p270, p271, p272, p273, p274, p275, p276, p277, p278, p279, p280, p281, p282, p283, p284, p285, p286, p287, p288, p289, p290, p291, p292, p293, p294, p295, p296, p297, p298, p299, p300, p301, p302, p303, p304, p305, p306, p307, p308, p309, p310, p311, p312, p313, p314, p315, p316, p317, p318, p319, p320, p321, p322, p323, p324], []⟩ W') :
    Code.wp Try.prog it18 Q ⟨#[p0, p1, p2, p3, p4, p5, p6, p7, p8, p9, p10, p11, .pointer (some ⟨go, 0, none⟩), p13, p14, p15, p16, p17, p18, p19, p20, p21, p22, p23, p24, .pointer (some ⟨gd, 0, none⟩), .pointer (some ⟨gz, 0, none⟩), p27, p28, p29, p30, p31, p32, p33, p34, p35, p36, p37, p38, p39, p40, p41, p42, p43, p44, p45, p46, p47, p48, p49, p50, p51, p52, p53, p54, p55, p56, p57, p58, p59, p60, p61, p62, p63, p64, p65, p66, p67, p68, p69, p70, p71, p72, p73, p74, p75, p76, p77, p78, p79, p80, p81, p82, p83, p84, p85, p86, p87, p88, p89, p90, p91, p92, p93, p94, p95, p96, p97, p98, p99, p100, p101, p102, p103, p104, p105, p106, p107, p108, p109, p110, p111, p112, p113, p114, p115, p116, p117, p118, p119, p120, p121, u122, u123, u124, u125, u126, u127, u128, u129, u130, u131, u132, u133, p134, p135, p136, p137, p138, p139, p140, p141, p142, p143, p144, p145, p146, p147, p148, p149, p150, p151, p152, p153, p154, p155, p156, p157, p158, p159, p160, p161, p162, p163, p164, p165, p166, p167, p168, p169, p170, p171, p172, p173, p174, p175, p176, p177, p178, p179, p180, p181, p182, p183, p184, p185, p186, p187, p188, p189, p190, p191, p192, p193, p194, p195, p196, p197, p198, p199, p200, p201, p202, p203, p204, p205, p206, p207, p208, p209, p210, p211, p212, p213, p214, p215, p216, p217, p218, p219, p220, p221, p222, p223, p224, p225, p226, p227, p228, p229, p230, p231, p232, p233, p234, p235, p236, p237, p238, p239, p240, p241, p242, p243, p244, p245, p246, p247, p248, p249, p250, p251, p252, p253, p254, p255, p256, p257, p258, p259, p260, p261, p262, p263, p264, p265, p266, p267, p268, p269, p270, p271, p272, p273, p274, p275, p276, p277, p278, p279, p280, p281, p282, p283, p284, p285, p286, p287, p288, p289, p290, p291, p292, p293, p294, p295, p296, p297, p298, p299, p300, p301, p302, p303, p304, p305, p306, p307, p308, p309, p310, p311, p312, p313, p314, p315, p316, p317, p318, p319, p320, p321, p322, p323, p324], []⟩ w := by
 conv => arg 2; whnf
 have HB := am (below_drew1 hb0)
 have HO := am (below_drew1 (Below.refl w.heap.size w))
 have BD := am (Go.Proofs.YtmkncddbecmlpaaW.PrintWords.bkD hbd)
 have BO := am (Go.Proofs.YtmkncddbecmlpaaW.PrintWords.bkD hbo)
 have BZ0 := am (Go.Proofs.YtmkncddbecmlpaaW.PrintWords.bkD hbz)
 have HCn := am (Kd.C_drew hC)
 have HCo := am (Kd.C_drew hco)
 have G0 := am (Kd.R_drew hR0)
 have G1 := am (Kd.R_drew hR1)
 have HM := am hm1
 have HL1 := am hl
 clear hb0 hbd hbz hbo hC hco hm1 hl hR0 hR1
 have hm0 : (0 : Int) ≤ (m : Int) := by omega
 have hmd : (m : Int) ≤ (d0 : Int) := by have := HM.out; omega
 refine start_ (n := 13) (S := fun w' => (w'.cell? ⟨gd, 2, none⟩ = some (.slice A0 ns.length c0)) ∧ w'.cell? ⟨go, 2, none⟩ = some (.slice B0 on.length d0)) (ds := [12]) #[false, false, false, false, false, false, false, false, false, false, false, false, false] (by kernel_rfl) rfl rfl ⟨(blk_cell BD.out 2).trans rfl, (blk_cell BO.out 2).trans rfl⟩ (fun hHeld => ?_); refine with_tabW it8.tab18 it8.bits18 (fun HT_ HW_ => ?_)
 generalize w.drew = w0 at HB HO BD BO BZ0 HCn HCo G0 G1 hHeld ⊢
 have hbd0 := BD
 have hbo0 := BO
 have hbz0 := BZ0
 refine pu_ 0 (some 122) HT_ rfl rfl (.inl ⟨by rfl, by intro w'; go_simp; with_reducible rfl⟩) (by simp only [Act.put, sa_, s0_, s1_, i64_w, i32_w]; rfl) ?_ (by kernel_rfl) (fun c a w h => hp c a _ _ w h)
 refine pu_ 3 (some 125) HT_ rfl rfl (.inl ⟨by rfl, by intro w'; go_simp; with_reducible rfl⟩) (by simp only [Act.put, sa_, s0_, s1_, i64_w, i32_w]; rfl) ?_ (by kernel_rfl) (fun c a w h => hp c a _ _ w h)
 refine pu_ 5 (some 127) HT_ rfl rfl (.inl ⟨by rfl, by intro w'; go_simp; with_reducible rfl⟩) (by simp only [Act.put, sa_, s0_, s1_, i64_w, i32_w]; rfl) ?_ (by kernel_rfl) (fun c a w h => hp c a _ _ w h)
 refine tk_ 1 (some 123) HT_ HW_ rfl rfl (.inl ⟨by rfl, by rintro w' ⟨s0, s1⟩; go_simp; with_reducible rfl⟩) hHeld (by simp only [Act.put, sa_, s0_, s1_, i64_w, i32_w]; rfl) ?_ (by kernel_rfl) (fun c a w h => hp c a _ _ w h)
 refine tk_ 4 (some 126) HT_ HW_ rfl rfl (.inl ⟨by rfl, by rintro w' ⟨s0, s1⟩; go_simp; with_reducible rfl⟩) hHeld (by simp only [Act.put, sa_, s0_, s1_, i64_w, i32_w]; rfl) ?_ (by kernel_rfl) (fun c a w h => hp c a _ _ w h)
 refine tk_ 6 (some 128) HT_ HW_ rfl rfl (.inl ⟨by rfl, by rintro w' ⟨s0, s1⟩; go_simp; with_reducible rfl⟩) hHeld (by simp only [Act.put, sa_, s0_, s1_, i64_w, i32_w]; rfl) ?_ (by kernel_rfl) (fun c a w h => hp c a _ _ w h)
 refine pu_ 7 (some 129) HT_ rfl rfl (.inl ⟨by rfl, by intro w'; go_simp; with_reducible rfl⟩) (by simp only [Act.put, sa_, s0_, s1_, i64_w, i32_w]; rfl) ?_ (by kernel_rfl) (fun c a w h => hp c a _ _ w h)
 refine pu_ 8 (some 130) HT_ rfl rfl (.inl ⟨by rfl, by intro w'; go_simp; with_reducible rfl⟩) (by simp only [Act.put, sa_, s0_, s1_, i64_w, i32_w]; rfl) ?_ (by kernel_rfl) (fun c a w h => hp c a _ _ w h)
 refine pu_ 9 (some 131) HT_ rfl rfl (.inl ⟨by rfl, by intro w'; go_simp; with_reducible rfl⟩) (by simp only [Act.put, sa_, s0_, s1_, i64_w, i32_w]; rfl) ?_ (by kernel_rfl) (fun c a w h => hp c a _ _ w h)
 refine on_ 2 (some 124) HT_ rfl rfl (fun K hK => ?_)
 refine Kd.R_append_rows_step k72 (w0 := w0) w0.heap.size rfl (.const (.slice none 0 0)) (.tmp 123) 47 72 (.agg #[(.string ⟨#[]⟩), (.string ⟨#[]⟩)]) 32 rfl Try.underlying47 info72 rfl (by decide) (by omega) (.slice none 0 0) ([]) (ns) (A0) (ns.length) (c0) (fun _ => True) (fun _ => False) rfl rfl ?aO ?aR (fun _ _ h => h) (fun _ h => h.elim) (fun _ _ => trivial) (Below.refl _ _) ?aS ?aL ?_
 (case aO => exact Kd.R_nil _ _ _ _ (fun _ => True))
 (case aR => exact HCn.out)
 (case aS => exact Nat.le_refl _)
 (case aL => have := HL1.out; simp only [List.length_nil]; omega)
 intro v1 W2 ho hb hg hat
 have H0 := am hb; obtain ⟨A2, c2, rfl⟩ := Kd.R_slice ho; have R2 := am ho; have m0_ := am (blk_same BD.out hb); have m1_ := am (blk_same BO.out hb); have m2_ := am (Kd.C_below HCo.out hb); clear BD BO HCo ho hb hg hat; have BD := m0_; have BO := m1_; have HCo := m2_; clear m0_ m1_ m2_
 refine hK.out _ _ ⟨(blk_cell BD.out 2).trans rfl, (blk_cell BO.out 2).trans rfl⟩ (fun hHeld => ?_)
 clear hK K
 refine norm_ (by show Act.put _ (some 124) _ = _; simp only [Act.put, sa_, s0_, s1_, i64_w, i32_w]; rfl) ?_
 refine on_ 10 (some 132) HT_ rfl rfl (fun K hK => ?_)
 refine Kd.R_append_rows_step k72 (w0 := w0) w0.heap.size rfl (.tmp 124) (.tmp 131) 47 72 (.agg #[(.string ⟨#[]⟩), (.string ⟨#[]⟩)]) 32 rfl Try.underlying47 info72 rfl (by decide) (by omega) (.slice A2 ([] ++ ns).length c2) ([] ++ ns) (on.take m) (B0) (m) (d0) (fun _ => True) (fun _ => False) rfl rfl ?aO ?aR (fun _ _ h => h) (fun _ h => h.elim) (fun _ _ => trivial) H0.out ?aS ?aL ?_
 (case aO => exact R2.out)
 (case aR => exact (C_pre HCo.out HM.out))
 (case aS => exact H0.out.size)
 (case aL => have := HL1.out; simp only [List.length_append, List.length_nil]; omega)
 intro v1 W2 ho hb hg hat
 obtain ⟨A3, c3, rfl⟩ := Kd.R_slice ho; have R3 := am ho; have H3 := am hb; clear ho hb hg hat H0 R2 HCo
 refine hK.out _ _ ⟨(blk_cell (blk_same hbd0.out H3.out) 2).trans rfl, (blk_cell (blk_same hbo0.out H3.out) 2).trans rfl⟩ (fun hHeld => ?_)
 clear hK K BD BO
 refine norm_ (by show Act.put _ (some 132) _ = _; simp only [Act.put, sa_, s0_, s1_, i64_w, i32_w]; rfl) ?_
 refine pu_ 11 (some 133) HT_ rfl rfl (.inl ⟨by rfl, by intro w'; go_simp; with_reducible rfl⟩) (by simp only [Act.put, sa_, s0_, s1_, i64_w, i32_w]; rfl) ?_ (by kernel_rfl) (fun c a w h => hp c a _ _ w h)
 have BZ := am (blk_same hbz0.out H3.out)
 refine la_ 12 none HT_ rfl rfl (fun K hK => ?_)
 have hs1 := (blk_cell BZ.out 2).trans rfl; have hf1 := blk_frozen BZ.out 2
 refine skip_ (by rfl) rfl (by go_simp; rfl) ?_
 refine hK.out _ _ ?_
 clear hK K hHeld hs1 hf1
 refine done_ (done_of HT_.out (by kernel_rfl)) ?_
 have hx : ([] ++ ns) ++ on.take m = ns ++ on.take m := by rw [List.nil_append]
 rw [hx] at R3
 have hx2 : ns.length + min m on.length = (ns ++ on.take m).length := by simp
 rw [hx2]
 generalize hxs : ns ++ on.take m = xs at *
 have b1 := blk_set BZ.out 2 (.slice A3 xs.length c3)
 have r0 := Kd.R_set (Kd.R_below G0.out H3.out) BZ.out (by decide) 2 (.slice A3 xs.length c3)
 have r1 := Kd.R_set (Kd.R_below G1.out H3.out) BZ.out (by decide) 2 (.slice A3 xs.length c3)
 have r3 := Kd.R_set R3.out BZ.out (by decide) 2 (.slice A3 xs.length c3)
 exact hQ A3 c3 xs _ _ _ _ _ _ _ _ _ _ _ _ _ rfl (below_set (HB.out.trans (H3.out.mono HB.out.size)) hgz) b1 (fun g o hne hg => (Below.heap_setCell _ _ _ _ (fun e => hne (by rw [e]))).trans (blk_same (blk_same hg HO.out) H3.out)) (Kd.R_reads' r3).2.2 (Kd.R_reads' r3).2.1 r0 r1
end Go.Proofs.Ytmkncddbecmlpaa.Pr
end
section
namespace Go.Proofs.Ytmkncddbecmlpaa.Pr
open Go.Proofs.Ytmkncddbecmlpaa.Sq Go.RowKit Go.Shelf Go.Proofs.Ytmkncddbecmlpaa.XB Go.Proofs.YtmkncddbecmlpaaW.PrintWords Go.Proofs.YtmkncddbecmlpaaW.PrintLast Go.Proofs.YtmkncddbecmlpaaW.PrintMore
set_option linter.unusedVariables false
set_option linter.unusedSimpArgs false
set_option maxRecDepth 100000
def it8.T20 : Bool × List (List Nat × List Nat) := (true, [([], []), ([0], [0]), ([1], [1]), ([], []), ([3], [3]), ([], []), ([5], [5]), ([6], [6]), ([7], [7]), ([4, 8], [4, 8]), ([2, 9, 2], [2, 9]), ([0, 1, 2, 3, 4, 5, 6, 7, 8, 9, 10], []), ([11, 10, 10, 0, 1, 2, 3, 4, 5, 6, 7, 8, 9, 10], [10, 11])])
def it8.B20 : List Nat := [0, 1, 3, 0, 8, 0, 32, 96, 224, 504, 1023, 2047, 4095]
theorem it8.tab20 : rtab .any (opsOf Try.f8 20) = it8.T20 := by kernel_rfl
theorem it8.bits20 : waitsOk it8.T20.2 it8.B20 = true := by kernel_rfl
noncomputable def it20 : Code := ((Try.f8.body.bind fun c => regionIn c 20)).getD .skip
set_option maxHeartbeats 8000000 in
theorem it_r20 {Q : Exit → Act → World → Prop} (gd gz go : Nat) {b ob : ByteArray} {a oa : Int} {ns on : List S72} {cs oc : List S74} {cl ocl : Bool} {A0 A1 B0 B1 : Option Addr} {c0 c1 d0 d1 m : Nat} (W0 w : World) (hp : ∀ c a (m : Nat) v w, Q (.panic c) (a.put (some m) v) w → Q (.panic c) a w)
    (hb0 : Below W0.heap.size W0 w) (hgz : W0.heap.size ≤ gz) (hbd : w.heap[gd]? = some (.cells #[.string b, .int .i64 a, .slice A0 ns.length c0, .slice A1 cs.length c1, .bool cl] 50 (0, 0))) (hbz : w.heap[gz]? = some (.cells #[.string b, .int .i64 a, .slice A0 ns.length c0, .slice A1 cs.length c1, .bool cl] 50 (0, 0))) (hbo : w.heap[go]? = some (.cells #[.string ob, .int .i64 oa, .slice B0 on.length d0, .slice B1 oc.length d1, .bool ocl] 50 (0, 0)))
    (hC : Kd.C k74 w A1 cs.length cs) (hco : Kd.C k74 w B1 oc.length oc) (hld : oc.length ≤ d1) (hm : (if (3 : Int) < (oc.length : Int) then (3 : Int) else (oc.length : Int)) = (m : Int)) (hm1 : m ≤ oc.length) (hl : cs.length + m ≤ 1000)
    (hR0 : Kd.R k72 72 w W0.heap.size (fun _ => True) (.slice A0 ns.length c0) ns) (hR1 : Kd.R k74 74 w W0.heap.size (fun _ => True) (.slice A1 cs.length c1) cs)
    {p0 p1 p2 p3 p4 p5 p6 p7 p8 p9 p10 p11 p13 p14 p15 p16 p17 p18 p19 p20 p21 p22 p23 p24 p27 p28 p29 p30 p31 p32 p33 p34 p35 p36 p37 p38 p39 p40 p41 p42 p43 p44 p45 p46 p47 p48 p49 p50 p51 p52 p53 p54 p55 p56 p57 p58 p59 p60 p61 p62 p63 p64 p65 p66 p67 p68 p69 p70 p71 p72 p73 p74 p75 p76 p77 p78 p79 p80 p81 p82 p83 p84 p85 p86 p87 p88 p89 p90 p91 p92 p93 p94 p95 p96 p97 p98 p99 p100 p101 p102 p103 p104 p105 p106 p107 p108 p109 p110 p111 p112 p113 p114 p115 p116 p117 p118 p119 p120 p121 p122 p123 p124 p125 p126 p127 p128 p129 p130 p131 p132 p133 p134 p135 p148 p149 p150 p151 p152 p153 p154 p155 p156 p157 p158 p159 p160 p161 p162 p163 p164 p165 p166 p167 p168 p169 p170 p171 p172 p173 p174 p175 p176 p177 p178 p179 p180 p181 p182 p183 p184 p185 p186 p187 p188 p189 p190 p191 p192 p193 p194 p195 p196 p197 p198 p199 p200 p201 p202 p203 p204 p205 p206 p207 p208 p209 p210 p211 p212 p213 p214 p215 p216 p217 p218 p219 p220 p221 p222 p223 p224 p225 p226 p227 p228 p229 p230 p231 p232 p233 p234 p235 p236 p237 p238 p239 p240 p241 p242 p243 p244 p245 p246 p247 p248 p249 p250 p251 p252 p253 p254 p255 p256 p257 p258 p259 p260 p261 p262 p263 p264 p265 p266 p267 p268 p269 p270 p271 p272 p273 p274 p275 p276 p277 p278 p279 p280 p281 p282 p283 p284 p285 p286 p287 p288 p289 p290 p291 p292 p293 p294 p295 p296 p297 p298 p299 p300 p301 p302 p303 p304 p305 p306 p307 p308 p309 p310 p311 p312 p313 p314 p315 p316 p317 p318 p319 p320 p321 p322 p323 p324 : Value} {u136 u137 u138 u139 u140 u141 u142 u143 u144 u145 u146 u147 : Value}
    (hQ : ∀ (Ax : Option Addr) (cx : Nat) (xs : List S74) (v136 v137 v138 v139 v140 v141 v142 v143 v144 v145 v146 v147 : Value) (W' : World), xs = cs ++ oc.take m → Below W0.heap.size W0 W' → W'.heap[gz]? = some (.cells #[.string b, .int .i64 a, .slice A0 ns.length c0, .slice Ax xs.length cx, .bool cl] 50 (0, 0)) → (∀ g o, g ≠ gz → w.heap[g]? = some o → W'.heap[g]? = some o) → Kd.C k74 W' Ax xs.length xs → xs.length ≤ cx → Kd.R k72 72 W' W0.heap.size (fun _ => True) (.slice A0 ns.length c0) ns → Kd.R k74 74 W' W0.heap.size (fun _ => True) (.slice A1 cs.length c1) cs → Q .normal ⟨#[p0, p1, p2, p3, p4, p5, p6, p7, p8, p9, p10, p11, .pointer (some ⟨go, 0, none⟩), p13, p14, p15, p16, p17, p18, p19, p20, p21, p22, p23, p24, .pointer (some ⟨gd, 0, none⟩), .pointer (some ⟨gz, 0, none⟩), p27, p28, p29, p30, p31, p32, p33, p34, p35, p36, p37, p38, p39, p40, p41, p42, p43, p44, p45, p46, p47, p48, p49, p50, p51, p52, p53, p54, p55, p56, p57, p58, p59, p60, p61, p62, p63, p64, p65, p66, p67, p68, p69, p70, p71, p72, p73, p74, p75, p76, p77, p78, p79, p80, p81, p82, p83, p84, p85, p86, p87, p88, p89, p90, p91, p92, p93, p94, p95, p96, p97, p98, p99, p100, p101, p102, p103, p104, p105, p106, p107, p108, p109, p110, p111, p112, p113, p114, p115, p116, p117, p118, p119, p120, p121, p122, p123, p124, p125, p126, p127, p128, p129, p130, p131, p132, p133, p134, p135, v136, v137, v138, v139, v140, v141, v142, v143, v144, v145, v146, v147, p148, p149, p150, p151, p152, p153, p154, p155, p156, p157, p158, p159, p160, p161, p162, p163, p164, p165, p166, p167, p168, p169, p170, p171, p172, p173, p174, p175, p176, p177, p178, p179, p180, p181, p182, p183, p184, p185, p186, p187, p188, p189, p190, p191, p192, p193, p194, p195, p196, p197, p198, p199, p200, p201, p202, p203, p204, p205, p206, p207, p208, p209, p210, p211, p212, p213, p214, p215, p216, p217, p218, p219, p220, p221, p222, p223, p224, p225, p226, p227, p228, p229, p230, p231, p232, p233, p234, p235, p236, p237, p238, p239, p240, p241, p242, p243, p244, p245, p246, p247, p248, p249, p250, p251, p252, p253, p254, p255, p256, p257, p258, p259, p260, p261, p262, p263, p264, p265, p266, p267, p268, p269, p270, p271, p272, p273, p274, p275, p276, p277, p278, p279, p280, p281, p282, p283, p284, p285, p286, p287, p288, p289, p290, p291, p292, p293, p294, p295, p296, p297, p298, p299, p300, p301, p302, p303, p304, p305, p306, p307, p308, p309, p310, p311, p312, p313, p314, p315, p316, p317, p318, p319, p320, p321, p322, p323, p324], []⟩ W') :
    Code.wp Try.prog it20 Q ⟨#[p0, p1, p2, p3, p4, p5, p6, p7, p8, p9, p10, p11, .pointer (some ⟨go, 0, none⟩), p13, p14, p15, p16, p17, p18, p19, p20, p21, p22, p23, p24, .pointer (some ⟨gd, 0, none⟩), .pointer (some ⟨gz, 0, none⟩), p27, p28, p29, p30, p31, p32, p33, p34, p35, p36, p37, p38, p39, p40, p41, p42, p43, p44, p45, p46, p47, p48, p49, p50, p51, p52, p53, p54, p55, p56, p57, p58, p59, p60, p61, p62, p63, p64, p65, p66, p67, p68, p69, p70, p71, p72, p73, p74, p75, p76, p77, p78, p79, p80, p81, p82, p83, p84, p85, p86, p87, p88, p89, p90, p91, p92, p93, p94, p95, p96, p97, p98, p99, p100, p101, p102, p103, p104, p105, p106, p107, p108, p109, p110, p111, p112, p113, p114, p115, p116, p117, p118, p119, p120, p121, p122, p123, p124, p125, p126, p127, p128, p129, p130, p131, p132, p133, p134, p135, u136, u137, u138, u139, u140, u141, u142, u143, u144, u145, u146, u147, p148, p149, p150, p151, p152, p153, p154, p155, p156, p157, p158, p159, p160, p161, p162, p163, p164, p165, p166, p167, p168, p169, p170, p171, p172, p173, p174, p175, p176, p177, p178, p179, p180, p181, p182, p183, p184, p185, p186, p187, p188, p189, p190, p191, p192, p193, p194, p195, p196, p197, p198, p199, p200, p201, p202, p203, p204, p205, p206, p207, p208, p209, p210, p211, p212, p213, p214, p215, p216, p217, p218, p219, p220, p221, p222, p223, p224, p225, p226, p227, p228, p229, p230, p231, p232, p233, p234, p235, p236, p237, p238, p239, p240, p241, p242, p243, p244, p245, p246, p247, p248, p249, p250, p251, p252, p253, p254, p255, p256, p257, p258, p259, p260, p261, p262, p263, p264, p265, p266, p267, p268, p269, p270, p271, p272, p273, p274, p275, p276, p277, p278, p279, p280, p281, p282, p283, p284, p285, p286, p287, p288, p289, p290, p291, p292, p293, p294, p295, p296, p297, p298, p299, p300, p301, p302, p303, p304, p305, p306, p307, p308, p309, p310, p311, p312, p313, p314, p315, p316, p317, p318, p319, p320, p321, p322, p323, p324], []⟩ w := by
 conv => arg 2; whnf
 have HB := am (below_drew1 hb0)
 have HO := am (below_drew1 (Below.refl w.heap.size w))
 have BD := am (Go.Proofs.YtmkncddbecmlpaaW.PrintWords.bkD hbd)
 have BO := am (Go.Proofs.YtmkncddbecmlpaaW.PrintWords.bkD hbo)
 have BZ0 := am (Go.Proofs.YtmkncddbecmlpaaW.PrintWords.bkD hbz)
 have HCn := am (Kd.C_drew hC)
 have HCo := am (Kd.C_drew hco)
 have G0 := am (Kd.R_drew hR0)
 have G1 := am (Kd.R_drew hR1)
 have HM := am hm1
 have HL1 := am hl
 clear hb0 hbd hbz hbo hC hco hm1 hl hR0 hR1
 have hm0 : (0 : Int) ≤ (m : Int) := by omega
 have hmd : (m : Int) ≤ (d1 : Int) := by have := HM.out; omega
 refine start_ (n := 13) (S := fun w' => (w'.cell? ⟨gd, 3, none⟩ = some (.slice A1 cs.length c1)) ∧ w'.cell? ⟨go, 3, none⟩ = some (.slice B1 oc.length d1)) (ds := [12]) #[false, false, false, false, false, false, false, false, false, false, false, false, false] (by kernel_rfl) rfl rfl ⟨(blk_cell BD.out 3).trans rfl, (blk_cell BO.out 3).trans rfl⟩ (fun hHeld => ?_); refine with_tabW it8.tab20 it8.bits20 (fun HT_ HW_ => ?_)
 generalize w.drew = w0 at HB HO BD BO BZ0 HCn HCo G0 G1 hHeld ⊢
 have hbd0 := BD
 have hbo0 := BO
 have hbz0 := BZ0
 refine pu_ 0 (some 136) HT_ rfl rfl (.inl ⟨by rfl, by intro w'; go_simp; with_reducible rfl⟩) (by simp only [Act.put, sa_, s0_, s1_, i64_w, i32_w]; rfl) ?_ (by kernel_rfl) (fun c a w h => hp c a _ _ w h)
 refine pu_ 3 (some 139) HT_ rfl rfl (.inl ⟨by rfl, by intro w'; go_simp; with_reducible rfl⟩) (by simp only [Act.put, sa_, s0_, s1_, i64_w, i32_w]; rfl) ?_ (by kernel_rfl) (fun c a w h => hp c a _ _ w h)
 refine pu_ 5 (some 141) HT_ rfl rfl (.inl ⟨by rfl, by intro w'; go_simp; with_reducible rfl⟩) (by simp only [Act.put, sa_, s0_, s1_, i64_w, i32_w]; rfl) ?_ (by kernel_rfl) (fun c a w h => hp c a _ _ w h)
 refine tk_ 1 (some 137) HT_ HW_ rfl rfl (.inl ⟨by rfl, by rintro w' ⟨s0, s1⟩; go_simp; with_reducible rfl⟩) hHeld (by simp only [Act.put, sa_, s0_, s1_, i64_w, i32_w]; rfl) ?_ (by kernel_rfl) (fun c a w h => hp c a _ _ w h)
 refine tk_ 4 (some 140) HT_ HW_ rfl rfl (.inl ⟨by rfl, by rintro w' ⟨s0, s1⟩; go_simp; with_reducible rfl⟩) hHeld (by simp only [Act.put, sa_, s0_, s1_, i64_w, i32_w]; rfl) ?_ (by kernel_rfl) (fun c a w h => hp c a _ _ w h)
 refine tk_ 6 (some 142) HT_ HW_ rfl rfl (.inl ⟨by rfl, by rintro w' ⟨s0, s1⟩; go_simp; with_reducible rfl⟩) hHeld (by simp only [Act.put, sa_, s0_, s1_, i64_w, i32_w]; rfl) ?_ (by kernel_rfl) (fun c a w h => hp c a _ _ w h)
 refine pu_ 7 (some 143) HT_ rfl rfl (.inl ⟨by rfl, by intro w'; go_simp; with_reducible rfl⟩) (by simp only [Act.put, sa_, s0_, s1_, i64_w, i32_w]; rfl) ?_ (by kernel_rfl) (fun c a w h => hp c a _ _ w h)
 refine pu_ 8 (some 144) HT_ rfl rfl (.inl ⟨by rfl, by intro w'; go_simp; with_reducible rfl⟩) (by simp only [Act.put, sa_, s0_, s1_, i64_w, i32_w]; rfl) ?_ (by kernel_rfl) (fun c a w h => hp c a _ _ w h)
 refine pu_ 9 (some 145) HT_ rfl rfl (.inl ⟨by rfl, by intro w'; go_simp; with_reducible rfl⟩) (by simp only [Act.put, sa_, s0_, s1_, i64_w, i32_w]; rfl) ?_ (by kernel_rfl) (fun c a w h => hp c a _ _ w h)
 refine on_ 2 (some 138) HT_ rfl rfl (fun K hK => ?_)
 refine Kd.R_append_rows_step k74 (w0 := w0) w0.heap.size rfl (.const (.slice none 0 0)) (.tmp 137) 48 74 (.agg #[(.string ⟨#[]⟩), (.string ⟨#[]⟩), (.string ⟨#[]⟩)]) 48 rfl Try.underlying48 info74 rfl (by decide) (by omega) (.slice none 0 0) ([]) (cs) (A1) (cs.length) (c1) (fun _ => True) (fun _ => False) rfl rfl ?aO ?aR (fun _ _ h => h) (fun _ h => h.elim) (fun _ _ => trivial) (Below.refl _ _) ?aS ?aL ?_
 (case aO => exact Kd.R_nil _ _ _ _ (fun _ => True))
 (case aR => exact HCn.out)
 (case aS => exact Nat.le_refl _)
 (case aL => have := HL1.out; simp only [List.length_nil]; omega)
 intro v1 W2 ho hb hg hat
 have H0 := am hb; obtain ⟨A2, c2, rfl⟩ := Kd.R_slice ho; have R2 := am ho; have m0_ := am (blk_same BD.out hb); have m1_ := am (blk_same BO.out hb); have m2_ := am (Kd.C_below HCo.out hb); clear BD BO HCo ho hb hg hat; have BD := m0_; have BO := m1_; have HCo := m2_; clear m0_ m1_ m2_
 refine hK.out _ _ ⟨(blk_cell BD.out 3).trans rfl, (blk_cell BO.out 3).trans rfl⟩ (fun hHeld => ?_)
 clear hK K
 refine norm_ (by show Act.put _ (some 138) _ = _; simp only [Act.put, sa_, s0_, s1_, i64_w, i32_w]; rfl) ?_
 refine on_ 10 (some 146) HT_ rfl rfl (fun K hK => ?_)
 refine Kd.R_append_rows_step k74 (w0 := w0) w0.heap.size rfl (.tmp 138) (.tmp 145) 48 74 (.agg #[(.string ⟨#[]⟩), (.string ⟨#[]⟩), (.string ⟨#[]⟩)]) 48 rfl Try.underlying48 info74 rfl (by decide) (by omega) (.slice A2 ([] ++ cs).length c2) ([] ++ cs) (oc.take m) (B1) (m) (d1) (fun _ => True) (fun _ => False) rfl rfl ?aO ?aR (fun _ _ h => h) (fun _ h => h.elim) (fun _ _ => trivial) H0.out ?aS ?aL ?_
 (case aO => exact R2.out)
 (case aR => exact (C_pre HCo.out HM.out))
 (case aS => exact H0.out.size)
 (case aL => have := HL1.out; simp only [List.length_append, List.length_nil]; omega)
 intro v1 W2 ho hb hg hat
 obtain ⟨A3, c3, rfl⟩ := Kd.R_slice ho; have R3 := am ho; have H3 := am hb; clear ho hb hg hat H0 R2 HCo
 refine hK.out _ _ ⟨(blk_cell (blk_same hbd0.out H3.out) 3).trans rfl, (blk_cell (blk_same hbo0.out H3.out) 3).trans rfl⟩ (fun hHeld => ?_)
 clear hK K BD BO
 refine norm_ (by show Act.put _ (some 146) _ = _; simp only [Act.put, sa_, s0_, s1_, i64_w, i32_w]; rfl) ?_
 refine pu_ 11 (some 147) HT_ rfl rfl (.inl ⟨by rfl, by intro w'; go_simp; with_reducible rfl⟩) (by simp only [Act.put, sa_, s0_, s1_, i64_w, i32_w]; rfl) ?_ (by kernel_rfl) (fun c a w h => hp c a _ _ w h)
 have BZ := am (blk_same hbz0.out H3.out)
 refine la_ 12 none HT_ rfl rfl (fun K hK => ?_)
 have hs1 := (blk_cell BZ.out 3).trans rfl; have hf1 := blk_frozen BZ.out 3
 refine skip_ (by rfl) rfl (by go_simp; rfl) ?_
 refine hK.out _ _ ?_
 clear hK K hHeld hs1 hf1
 refine done_ (done_of HT_.out (by kernel_rfl)) ?_
 have hx : ([] ++ cs) ++ oc.take m = cs ++ oc.take m := by rw [List.nil_append]
 rw [hx] at R3
 have hx2 : cs.length + min m oc.length = (cs ++ oc.take m).length := by simp
 rw [hx2]
 generalize hxs : cs ++ oc.take m = xs at *
 have b1 := blk_set BZ.out 3 (.slice A3 xs.length c3)
 have r0 := Kd.R_set (Kd.R_below G0.out H3.out) BZ.out (by decide) 3 (.slice A3 xs.length c3)
 have r1 := Kd.R_set (Kd.R_below G1.out H3.out) BZ.out (by decide) 3 (.slice A3 xs.length c3)
 have r3 := Kd.R_set R3.out BZ.out (by decide) 3 (.slice A3 xs.length c3)
 exact hQ A3 c3 xs _ _ _ _ _ _ _ _ _ _ _ _ _ rfl (below_set (HB.out.trans (H3.out.mono HB.out.size)) hgz) b1 (fun g o hne hg => (Below.heap_setCell _ _ _ _ (fun e => hne (by rw [e]))).trans (blk_same (blk_same hg HO.out) H3.out)) (Kd.R_reads' r3).2.2 (Kd.R_reads' r3).2.1 r0 r1
end Go.Proofs.Ytmkncddbecmlpaa.Pr
end
section
namespace Go.Proofs.Ytmkncddbecmlpaa.Pr
open Go.Proofs.Ytmkncddbecmlpaa.Sq Go.RowKit Go.Shelf Go.Proofs.Ytmkncddbecmlpaa.XB Go.Proofs.YtmkncddbecmlpaaW.PrintWords Go.Proofs.YtmkncddbecmlpaaW.PrintLast Go.Proofs.YtmkncddbecmlpaaW.PrintMore
set_option linter.unusedVariables false
set_option linter.unusedSimpArgs false
set_option maxRecDepth 100000
def it8.T12 : Bool × List (List Nat × List Nat) := (true, [([], []), ([0], [0]), ([1], [1]), ([2], [2]), ([], []), ([4], [4]), ([5], [5]), ([3, 6], [3, 6]), ([0, 1, 2, 3, 4, 5, 6, 7], []), ([8, 0, 1, 2, 3, 4, 5, 6, 7], [8]), ([9, 7, 6, 0, 1, 2, 3, 4, 5, 6, 7], [7, 9])])
def it8.B12 : List Nat := [0, 1, 3, 7, 0, 16, 48, 127, 255, 511, 1023]
theorem it8.tab12 : rtab .any (opsOf Try.f8 12) = it8.T12 := by kernel_rfl
theorem it8.bits12 : waitsOk it8.T12.2 it8.B12 = true := by kernel_rfl
noncomputable def it12 : Code := ((Try.f8.body.bind fun c => regionIn c 12)).getD .skip
set_option maxHeartbeats 8000000 in
theorem it_r12 {Q : Exit → Act → World → Prop} (gn gz : Nat) {b : ByteArray} {a n0 n1 n2 pk : Int} {ty : TypeId} {ns : List S72} {cs : List S74} {cl : Bool} {A0 A1 : Option Addr} {c0 c1 : Nat} (W0 w : World) (hp : ∀ c a (m : Nat) v w, Q (.panic c) (a.put (some m) v) w → Q (.panic c) a w)
    (hb0 : Below W0.heap.size W0 w) (hgz : W0.heap.size ≤ gz) (hbz : w.heap[gz]? = some (.cells #[.string b, .int .i64 a, .slice A0 ns.length c0, .slice A1 cs.length c1, .bool cl] 50 (0, 0))) (hbn : w.heap[gn]? = some (.cells #[.int .i64 n0, .int .i64 n1, .int .i64 n2] ty (0, 0)))
    (hpk : u8_pick.f n2 60 = some pk) (hs : b.size = 2000) (hpk0 : 0 ≤ pk) (hpk1 : pk < 60)
    (hR0 : Kd.R k72 72 w W0.heap.size (fun _ => True) (.slice A0 ns.length c0) ns) (hR1 : Kd.R k74 74 w W0.heap.size (fun _ => True) (.slice A1 cs.length c1) cs)
    {p0 p1 p2 p3 p4 p5 p6 p7 p8 p9 p11 p12 p13 p14 p15 p16 p17 p18 p19 p20 p21 p22 p23 p24 p25 p27 p28 p29 p30 p31 p32 p33 p34 p35 p36 p37 p38 p39 p40 p41 p42 p43 p44 p45 p46 p47 p48 p49 p50 p51 p52 p53 p54 p55 p56 p57 p58 p59 p60 p61 p62 p63 p64 p65 p66 p67 p68 p69 p70 p71 p72 p73 p74 p75 p76 p77 p78 p79 p80 p81 p82 p83 p84 p85 p86 p87 p88 p89 p90 p91 p92 p93 p94 p95 p96 p97 p98 p109 p110 p111 p112 p113 p114 p115 p116 p117 p118 p119 p120 p121 p122 p123 p124 p125 p126 p127 p128 p129 p130 p131 p132 p133 p134 p135 p136 p137 p138 p139 p140 p141 p142 p143 p144 p145 p146 p147 p148 p149 p150 p151 p152 p153 p154 p155 p156 p157 p158 p159 p160 p161 p162 p163 p164 p165 p166 p167 p168 p169 p170 p171 p172 p173 p174 p175 p176 p177 p178 p179 p180 p181 p182 p183 p184 p185 p186 p187 p188 p189 p190 p191 p192 p193 p194 p195 p196 p197 p198 p199 p200 p201 p202 p203 p204 p205 p206 p207 p208 p209 p210 p211 p212 p213 p214 p215 p216 p217 p218 p219 p220 p221 p222 p223 p224 p225 p226 p227 p228 p229 p230 p231 p232 p233 p234 p235 p236 p237 p238 p239 p240 p241 p242 p243 p244 p245 p246 p247 p248 p249 p250 p251 p252 p253 p254 p255 p256 p257 p258 p259 p260 p261 p262 p263 p264 p265 p266 p267 p268 p269 p270 p271 p272 p273 p274 p275 p276 p277 p278 p279 p280 p281 p282 p283 p284 p285 p286 p287 p288 p289 p290 p291 p292 p293 p294 p295 p296 p297 p298 p299 p300 p301 p302 p303 p304 p305 p306 p307 p308 p309 p310 p311 p312 p313 p314 p315 p316 p317 p318 p319 p320 p321 p322 p323 p324 : Value} {u99 u100 u101 u102 u103 u104 u105 u106 u107 u108 : Value}
    (hQ : ∀ (a2 : Int) (v99 v100 v101 v102 v103 v104 v105 v106 v107 v108 : Value) (W' : World), Below W0.heap.size W0 W' → W'.heap[gz]? = some (.cells #[.string b, .int .i64 a2, .slice A0 ns.length c0, .slice A1 cs.length c1, .bool cl] 50 (0, 0)) → (∀ g o, g ≠ gz → w.heap[g]? = some o → W'.heap[g]? = some o) → Kd.R k72 72 W' W0.heap.size (fun _ => True) (.slice A0 ns.length c0) ns → Kd.R k74 74 W' W0.heap.size (fun _ => True) (.slice A1 cs.length c1) cs → Q .normal ⟨#[p0, p1, p2, p3, p4, p5, p6, p7, p8, p9, .pointer (some ⟨gn, 0, none⟩), p11, p12, p13, p14, p15, p16, p17, p18, p19, p20, p21, p22, p23, p24, p25, .pointer (some ⟨gz, 0, none⟩), p27, p28, p29, p30, p31, p32, p33, p34, p35, p36, p37, p38, p39, p40, p41, p42, p43, p44, p45, p46, p47, p48, p49, p50, p51, p52, p53, p54, p55, p56, p57, p58, p59, p60, p61, p62, p63, p64, p65, p66, p67, p68, p69, p70, p71, p72, p73, p74, p75, p76, p77, p78, p79, p80, p81, p82, p83, p84, p85, p86, p87, p88, p89, p90, p91, p92, p93, p94, p95, p96, p97, p98, v99, v100, v101, v102, v103, v104, v105, v106, v107, v108, p109, p110, p111, p112, p113, p114, p115, p116, p117, p118, p119, p120, p121, p122, p123, p124, p125, p126, p127, p128, p129, p130, p131, p132, p133, p134, p135, p136, p137, p138, p139, p140, p141, p142, p143, p144, p145, p146, p147, p148, p149, p150, p151, p152, p153, p154, p155, p156, p157, p158, p159, p160, p161, p162, p163, p164, p165, p166, p167, p168, p169, p170, p171, p172, p173, p174, p175, p176, p177, p178, p179, p180, p181, p182, p183, p184, p185, p186, p187, p188, p189, p190, p191, p192, p193, p194, p195, p196, p197, p198, p199, p200, p201, p202, p203, p204, p205, p206, p207, p208, p209, p210, p211, p212, p213, p214, p215, p216, p217, p218, p219, p220, p221, p222, p223, p224, p225, p226, p227, p228, p229, p230, p231, p232, p233, p234, p235, p236, p237, p238, p239, p240, p241, p242, p243, p244, p245, p246, p247, p248, p249, p250, p251, p252, p253, p254, p255, p256, p257, p258, p259, p260, p261, p262, p263, p264, p265, p266, p267, p268, p269, p270, p271, p272, p273, p274, p275, p276, p277, p278, p279, p280, p281, p282, p283, p284, p285, p286, p287, p288, p289, p290, p291, p292, p293, p294, p295, p296, p297, p298, p299, p300, p301, p302, p303, p304, p305, p306, p307, p308, p309, p310, p311, p312, p313, p314, p315, p316, p317, p318, p319, p320, p321, p322, p323, p324], []⟩ W') :
    Code.wp Try.prog it12 Q ⟨#[p0, p1, p2, p3, p4, p5, p6, p7, p8, p9, .pointer (some ⟨gn, 0, none⟩), p11, p12, p13, p14, p15, p16, p17, p18, p19, p20, p21, p22, p23, p24, p25, .pointer (some ⟨gz, 0, none⟩), p27, p28, p29, p30, p31, p32, p33, p34, p35, p36, p37, p38, p39, p40, p41, p42, p43, p44, p45, p46, p47, p48, p49, p50, p51, p52, p53, p54, p55, p56, p57, p58, p59, p60, p61, p62, p63, p64, p65, p66, p67, p68, p69, p70, p71, p72, p73, p74, p75, p76, p77, p78, p79, p80, p81, p82, p83, p84, p85, p86, p87, p88, p89, p90, p91, p92, p93, p94, p95, p96, p97, p98, u99, u100, u101, u102, u103, u104, u105, u106, u107, u108, p109, p110, p111, p112, p113, p114, p115, p116, p117, p118, p119, p120, p121, p122, p123, p124, p125, p126, p127, p128, p129, p130, p131, p132, p133, p134, p135, p136, p137, p138, p139, p140, p141, p142, p143, p144, p145, p146, p147, p148, p149, p150, p151, p152, p153, p154, p155, p156, p157, p158, p159, p160, p161, p162, p163, p164, p165, p166, p167, p168, p169, p170, p171, p172, p173, p174, p175, p176, p177, p178, p179, p180, p181, p182, p183, p184, p185, p186, p187, p188, p189, p190, p191, p192, p193, p194, p195, p196, p197, p198, p199, p200, p201, p202, p203, p204, p205, p206, p207, p208, p209, p210, p211, p212, p213, p214, p215, p216, p217, p218, p219, p220, p221, p222, p223, p224, p225, p226, p227, p228, p229, p230, p231, p232, p233, p234, p235, p236, p237, p238, p239, p240, p241, p242, p243, p244, p245, p246, p247, p248, p249, p250, p251, p252, p253, p254, p255, p256, p257, p258, p259, p260, p261, p262, p263, p264, p265, p266, p267, p268, p269, p270, p271, p272, p273, p274, p275, p276, p277, p278, p279, p280, p281, p282, p283, p284, p285, p286, p287, p288, p289, p290, p291, p292, p293, p294, p295, p296, p297, p298, p299, p300, p301, p302, p303, p304, p305, p306, p307, p308, p309, p310, p311, p312, p313, p314, p315, p316, p317, p318, p319, p320, p321, p322, p323, p324], []⟩ w := by
 conv => arg 2; whnf
 have HB := am (below_drew1 hb0)
 have HO := am (below_drew1 (Below.refl w.heap.size w))
 have BN := am (Go.Proofs.YtmkncddbecmlpaaW.PrintWords.bkD hbn)
 have BZ := am (Go.Proofs.YtmkncddbecmlpaaW.PrintWords.bkD hbz)
 have G0 := am (Kd.R_drew hR0)
 have G1 := am (Kd.R_drew hR1)
 have HP := am hpk
 clear hb0 hbn hbz hpk hR0 hR1
 refine start_ (n := 11) (S := fun w' => w'.cell? ⟨gz, 0, none⟩ = some (.string b) ∧ w'.cell? ⟨gn, 2, none⟩ = some (.int .i64 n2)) (ds := [10]) #[false, false, false, false, false, false, false, false, false, false, false] (by kernel_rfl) rfl rfl ⟨(blk_cell BZ.out 0).trans rfl, (blk_cell BN.out 2).trans rfl⟩ (fun hHeld => ?_); refine with_tabW it8.tab12 it8.bits12 (fun HT_ HW_ => ?_)
 generalize w.drew = w0 at HB HO BN BZ G0 G1 hHeld ⊢
 refine pu_ 0 (some 99) HT_ rfl rfl (.inl ⟨by rfl, by intro w'; go_simp; with_reducible rfl⟩) (by simp only [Act.put, sa_, s0_, s1_, i64_w, i32_w]; rfl) ?_ (by kernel_rfl) (fun c a w h => hp c a _ _ w h)
 refine pu_ 1 (some 100) HT_ rfl rfl (.inl ⟨by rfl, by intro w'; go_simp; with_reducible rfl⟩) (by simp only [Act.put, sa_, s0_, s1_, i64_w, i32_w]; rfl) ?_ (by kernel_rfl) (fun c a w h => hp c a _ _ w h)
 refine pu_ 4 (some 103) HT_ rfl rfl (.inl ⟨by rfl, by intro w'; go_simp; with_reducible rfl⟩) (by simp only [Act.put, sa_, s0_, s1_, i64_w, i32_w]; rfl) ?_ (by kernel_rfl) (fun c a w h => hp c a _ _ w h)
 refine tk_ 2 (some 101) HT_ HW_ rfl rfl (.inl ⟨by rfl, by rintro w' ⟨s0, s1⟩; go_simp; with_reducible rfl⟩) hHeld (by simp only [Act.put, sa_, s0_, s1_, i64_w, i32_w]; rfl) ?_ (by kernel_rfl) (fun c a w h => hp c a _ _ w h)
 refine tk_ 5 (some 104) HT_ HW_ rfl rfl (.inl ⟨by rfl, by rintro w' ⟨s0, s1⟩; go_simp; with_reducible rfl⟩) hHeld (by simp only [Act.put, sa_, s0_, s1_, i64_w, i32_w]; rfl) ?_ (by kernel_rfl) (fun c a w h => hp c a _ _ w h)
 refine pu_ 3 (some 102) HT_ rfl rfl (.inl ⟨by rfl, by intro w'; go_simp; with_reducible rfl⟩) (by simp only [Act.put, sa_, s0_, s1_, i64_w, i32_w]; rfl) ?_ (by kernel_rfl) (fun c a w h => hp c a _ _ w h)
 refine on_ 6 (some 105) HT_ rfl rfl (fun K hK => ?_)
 refine goes_ Try.func34 (by kernel_rfl) rfl #[.int .i64 n2, .int .i64 60] (by rfl) rfl rfl (by (try simp only [List.map_toArray, List.map_cons, List.map_nil]) <;> rfl) ?_
 refine (u8_pick.calls n2 60 pk _ HP.out).mono ?_
 rintro e W2 ⟨rfl, hdr⟩
 have hb := hdr.below
 refine ⟨_, rfl, ?_⟩
 have H3 := am hb; have m0_ := am (blk_same BZ.out hb); have m1_ := am (blk_same BN.out hb); clear BZ BN hb hdr; have BZ := m0_; have BN := m1_; clear m0_ m1_
 refine hK.out _ _ ⟨(blk_cell BZ.out 0).trans rfl, (blk_cell BN.out 2).trans rfl⟩ (fun hHeld => ?_)
 clear hK K
 refine norm_ (by show Act.put _ (some 105) _ = _; simp only [Act.put, sa_, s0_, s1_, i64_w, i32_w]; rfl) ?_
 refine pu_ 7 (some 106) HT_ rfl rfl (.inl ⟨by rfl, by intro w'; go_simp; with_reducible rfl⟩) (by simp only [Act.put, sa_, s0_, s1_, i64_w, i32_w]; rfl) ?_ (by kernel_rfl) (fun c a w h => hp c a _ _ w h)
 refine pu_ 8 (some 107) HT_ rfl rfl (.inl ⟨by rfl, by intro w'; go_simp; with_reducible rfl⟩) (by simp only [Act.put, sa_, s0_, s1_, i64_w, i32_w]; rfl) ?_ (by kernel_rfl) (fun c a w h => hp c a _ _ w h)
 refine pu_ 9 (some 108) HT_ rfl rfl (.inl ⟨by rfl, by intro w'; go_simp; with_reducible rfl⟩) (by simp only [Act.put, sa_, s0_, s1_, i64_w, i32_w]; rfl) ?_ (by kernel_rfl) (fun c a w h => hp c a _ _ w h)
 refine la_ 10 none HT_ rfl rfl (fun K hK => ?_)
 have hs1 := (blk_cell BZ.out 1).trans rfl; have hf1 := blk_frozen BZ.out 1
 refine skip_ (by rfl) rfl (by go_simp; rfl) ?_
 refine hK.out _ _ ?_
 clear hK K hHeld hs1 hf1
 refine done_ (done_of HT_.out (by kernel_rfl)) ?_
 have b1 := fun v => blk_set BZ.out 1 v
 exact hQ _ _ _ _ _ _ _ _ _ _ _ _ (below_set (HB.out.trans (H3.out.mono HB.out.size)) hgz) (b1 _) (fun g o hne hg => (Below.heap_setCell _ _ _ _ (fun e => hne (by rw [e]))).trans (blk_same (blk_same hg HO.out) H3.out)) (Kd.R_set (Kd.R_below G0.out H3.out) BZ.out (by decide) 1 _) (Kd.R_set (Kd.R_below G1.out H3.out) BZ.out (by decide) 1 _)
end Go.Proofs.Ytmkncddbecmlpaa.Pr
end
section
namespace Go.Proofs.Ytmkncddbecmlpaa.Pr
open Go.RowKit Go.Shelf Go.Proofs.Ytmkncddbecmlpaa.XB Go.Proofs.YtmkncddbecmlpaaW.PrintWords
attribute [local go_sem] Oper.semAt_some
set_option linter.unusedVariables false
set_option linter.unusedSimpArgs false
set_option maxRecDepth 100000
theorem set5_4 {w : World} {g : Nat} {a b c d e : Value} {t : TypeId} (h : w.heap[g]? = some (.cells #[a, b, c, d, e] t (0, 0))) (u : Value) : (w.setCell ⟨g, 4, none⟩ u).heap[g]? = some (.cells #[a, b, c, d, u] t (0, 0)) := Go.Proofs.YtmkncddbecmlpaaW.PrintWords.blk_set h 4 u
theorem set5_01 {w : World} {g : Nat} {a b c d e : Value} {t : TypeId} (h : w.heap[g]? = some (.cells #[a, b, c, d, e] t (0, 0))) (u v : Value) : ((w.setCell ⟨g, 0, none⟩ u).setCell ⟨g, 1, none⟩ v).heap[g]? = some (.cells #[u, v, c, d, e] t (0, 0)) :=
  Go.Proofs.YtmkncddbecmlpaaW.PrintWords.blk_set (Go.Proofs.YtmkncddbecmlpaaW.PrintWords.blk_set h 0 u) 1 v
theorem blk_far1 {w : World} {g g2 j : Nat} {t : TypeId} {cs : Array Value} (h : w.heap[g]? = some (.cells cs t (0, 0))) (hne : g ≠ g2) (u : Value) : (w.setCell ⟨g2, j, none⟩ u).heap[g]? = some (.cells cs t (0, 0)) := Go.Proofs.YtmkncddbecmlpaaW.PrintWords.blk_far h hne u
theorem two_ideals {w : World} {g : Nat} {b b2 : ByteArray} {a a2 : Int} {A0 A1 B0 B1 : Option Addr} {c0 c1 d0 d1 : Nat} {ns ns2 : List S72} {cs cs2 : List S74} {cl cl2 : Bool}
    (h : w.heap[g]? = some (.cells #[.string b, .int .i64 a, .slice A0 ns.length c0, .slice A1 cs.length c1, .bool cl, .string b2, .int .i64 a2, .slice B0 ns2.length d0, .slice B1 cs2.length d1, .bool cl2] 50 (0, 0)))
    (e0 : Kd.C k72 w A0 ns.length ns) (l0 : ns.length ≤ c0) (e1 : Kd.C k74 w A1 cs.length cs) (l1 : cs.length ≤ c1) (f0 : Kd.C k72 w B0 ns2.length ns2) (m0 : ns2.length ≤ d0) (f1 : Kd.C k74 w B1 cs2.length cs2) (m1 : cs2.length ≤ d1)
    (n0 : ns.length ≤ 18) (n1 : cs.length ≤ 18) (n2 : ns2.length ≤ 18) (n3 : cs2.length ≤ 18) :
    ∀ i : Nat, i < 2 → ∃ (xb : ByteArray) (xa : Int) (xn : List S72) (xc : List S74) (xl : Bool) (A : Option Addr) (c : Nat) (B : Option Addr) (d : Nat), (∀ X, Below w.heap.size w X → X.cell? ⟨g, i * 5, none⟩ = some (.string xb)) ∧ (∀ X, Below w.heap.size w X → X.cell? ⟨g, i * 5 + 1, none⟩ = some (.int .i64 xa)) ∧
      (∀ X, Below w.heap.size w X → X.cell? ⟨g, i * 5 + 2, none⟩ = some (.slice A xn.length c)) ∧ (∀ X, Below w.heap.size w X → X.cell? ⟨g, i * 5 + 3, none⟩ = some (.slice B xc.length d)) ∧ (∀ X, Below w.heap.size w X → X.cell? ⟨g, i * 5 + 4, none⟩ = some (.bool xl)) ∧
      Kd.C k72 w A xn.length xn ∧ xn.length ≤ c ∧ Kd.C k74 w B xc.length xc ∧ xc.length ≤ d ∧ xn.length ≤ 18 ∧ xc.length ≤ 18 := by
  intro i hi
  have : i = 0 ∨ i = 1 := by omega
  rcases this with rfl | rfl
  · exact ⟨b, a, ns, cs, cl, A0, c0, A1, c1, fun X hX => (blk_cell (blk_same h hX) 0).trans rfl, fun X hX => (blk_cell (blk_same h hX) 1).trans rfl, fun X hX => (blk_cell (blk_same h hX) 2).trans rfl, fun X hX => (blk_cell (blk_same h hX) 3).trans rfl, fun X hX => (blk_cell (blk_same h hX) 4).trans rfl, e0, l0, e1, l1, n0, n1⟩
  · exact ⟨b2, a2, ns2, cs2, cl2, B0, d0, B1, d1, fun X hX => (blk_cell (blk_same h hX) 5).trans rfl, fun X hX => (blk_cell (blk_same h hX) 6).trans rfl, fun X hX => (blk_cell (blk_same h hX) 7).trans rfl, fun X hX => (blk_cell (blk_same h hX) 8).trans rfl, fun X hX => (blk_cell (blk_same h hX) 9).trans rfl, f0, m0, f1, m1, n2, n3⟩
def leads : Code → Option Nat
  | .region id _ _ => some id
  | .seq a _ => leads a
  | _ => none
def seqIn : Code → Nat → Option Code
  | .seq a b, k => if leads a == some k then some (.seq a b) else match seqIn a k with
    | some o => some o
    | none => seqIn b k
  | _, _ => none
def blockIn : Code → Nat → Option Code
  | .block i c, k => if i == k then some (.block i c) else none
  | .seq a b, k => match blockIn a k with
    | some o => some o
    | none => blockIn b k
  | _, _ => none
noncomputable def it_rest : Code := ((Try.f8.body.bind fun c => seqIn c 21)).getD .skip
noncomputable def it_sw : Code := ((Try.f8.body.bind fun c => blockIn c 0)).getD .skip
set_option maxHeartbeats 8000000 in
theorem it_tail (gd gz : Nat) {any b zb : ByteArray} {a za n0 n1 n2 p6 : Int} {ns zn : List S72} {cs zc : List S74} {cl zl : Bool} {A0 A1 Z0 Z1 : Option Addr} {c0 c1 z0 z1 : Nat} {lb tx : ByteArray} (w X : World)
    (hlb : u8_Label.f n1 = some lb) (htx : u8_Text.f n2 = some tx) (hp6 : u8_pick.f n1 6 = some p6) (h60 : 0 ≤ p6) (h66 : p6 < 6) (hm0 : ns.length ≤ 18) (hm1 : cs.length ≤ 18)
    (x0 : X.heap[gd]? = some (.cells #[.string b, .int .i64 a, .slice A0 ns.length c0, .slice A1 cs.length c1, .bool cl] 50 (0, 0))) (x1 : X.heap[gz]? = some (.cells #[.string zb, .int .i64 za, .slice Z0 zn.length z0, .slice Z1 zc.length z1, .bool zl] 50 (0, 0))) (x2 : X.heap[w.heap.size]? = some (.cells #[.int .i64 n0, .int .i64 n1, .int .i64 n2] 46)) (x3 : Below w.heap.size w X) (x4 : Kd.C k72 X A0 ns.length ns) (x5 : ns.length ≤ c0) (x6 : Kd.C k74 X A1 cs.length cs) (x7 : cs.length ≤ c1) (x8 : Kd.C k72 X Z0 zn.length zn) (x9 : zn.length ≤ z0) (x10 : Kd.C k74 X Z1 zc.length zc) (x11 : zc.length ≤ z1) (x12 : zn.length ≤ 18) (x13 : zc.length ≤ 18)
    {f0 f1 f2 f3 f5 f6 f7 f8 f9 f11 f12 f13 f14 f16 f17 f18 f19 f20 f21 f22 f23 f24 f27 f28 f29 f30 f31 f32 f33 f34 f35 f36 f37 f38 f39 f40 f41 f42 f43 f44 f45 f46 f47 f48 f49 f50 f51 f52 f53 f54 f55 f56 f57 f58 f59 f60 f61 f62 f63 f64 f65 f66 f67 f68 f69 f70 f71 f72 f73 f74 f75 f76 f77 f78 f79 f80 f81 f82 f83 f84 f85 f86 f87 f88 f89 f90 f91 f92 f93 f94 f95 f96 f97 f98 f99 f100 f101 f102 f103 f104 f105 f106 f107 f108 f109 f110 f111 f112 f113 f114 f115 f116 f117 f118 f119 f120 f121 f122 f123 f124 f125 f126 f127 f128 f129 f130 f131 f132 f133 f134 f135 f136 f137 f138 f139 f140 f141 f142 f143 f144 f145 f146 f147 f148 f149 f150 f151 f152 f153 f154 f155 f156 f157 f158 f159 f160 f161 f162 f163 f164 f165 f166 f167 f168 f169 f170 f171 f172 f173 f174 f175 f176 f177 f178 f179 f180 f181 f182 f183 f184 f185 f186 f187 f188 f189 f190 f191 f192 f193 f194 f195 f196 f197 f198 f199 f200 f201 f202 f203 f204 f205 f206 f207 f208 f209 f210 f211 f212 f213 f214 f215 f216 f217 f218 f219 f220 f221 f222 f223 f224 f225 f226 f227 f228 f229 f230 f231 f232 f233 f234 f235 f236 f237 f238 f239 f240 f241 f242 f243 f244 f245 f246 f247 f248 f249 f250 f251 f252 f253 f254 f255 f256 f257 f258 f259 f260 f261 f262 f263 f264 f265 f266 f267 f268 f269 f270 f271 f272 f273 f274 f275 f276 f277 f278 f279 f280 f281 f282 f283 f284 f285 f286 f287 f288 f289 f290 f291 f292 f293 f294 f295 f296 f297 f298 f299 f300 f301 f302 f303 f304 f305 f306 f307 f308 f309 f310 f311 f312 f313 f314 f315 f316 f317 f318 f319 f320 f321 f322 f323 f324 : Value} :
    Code.wp Try.prog it_rest (bodyPost Try.prog Try.f8 (fun e w' => e = .returned (.bool true) ∧ Below w.heap.size w w')) ⟨#[f0, f1, f2, f3, .string any, f5, f6, f7, f8, f9, .pointer (some ⟨w.heap.size, 0, none⟩), f11, f12, f13, f14, .bool true, f16, f17, f18, f19, f20, f21, f22, f23, f24, .pointer (some ⟨gd, 0, none⟩), .pointer (some ⟨gz, 0, none⟩), f27, f28, f29, f30, f31, f32, f33, f34, f35, f36, f37, f38, f39, f40, f41, f42, f43, f44, f45, f46, f47, f48, f49, f50, f51, f52, f53, f54, f55, f56, f57, f58, f59, f60, f61, f62, f63, f64, f65, f66, f67, f68, f69, f70, f71, f72, f73, f74, f75, f76, f77, f78, f79, f80, f81, f82, f83, f84, f85, f86, f87, f88, f89, f90, f91, f92, f93, f94, f95, f96, f97, f98, f99, f100, f101, f102, f103, f104, f105, f106, f107, f108, f109, f110, f111, f112, f113, f114, f115, f116, f117, f118, f119, f120, f121, f122, f123, f124, f125, f126, f127, f128, f129, f130, f131, f132, f133, f134, f135, f136, f137, f138, f139, f140, f141, f142, f143, f144, f145, f146, f147, f148, f149, f150, f151, f152, f153, f154, f155, f156, f157, f158, f159, f160, f161, f162, f163, f164, f165, f166, f167, f168, f169, f170, f171, f172, f173, f174, f175, f176, f177, f178, f179, f180, f181, f182, f183, f184, f185, f186, f187, f188, f189, f190, f191, f192, f193, f194, f195, f196, f197, f198, f199, f200, f201, f202, f203, f204, f205, f206, f207, f208, f209, f210, f211, f212, f213, f214, f215, f216, f217, f218, f219, f220, f221, f222, f223, f224, f225, f226, f227, f228, f229, f230, f231, f232, f233, f234, f235, f236, f237, f238, f239, f240, f241, f242, f243, f244, f245, f246, f247, f248, f249, f250, f251, f252, f253, f254, f255, f256, f257, f258, f259, f260, f261, f262, f263, f264, f265, f266, f267, f268, f269, f270, f271, f272, f273, f274, f275, f276, f277, f278, f279, f280, f281, f282, f283, f284, f285, f286, f287, f288, f289, f290, f291, f292, f293, f294, f295, f296, f297, f298, f299, f300, f301, f302, f303, f304, f305, f306, f307, f308, f309, f310, f311, f312, f313, f314, f315, f316, f317, f318, f319, f320, f321, f322, f323, f324], []⟩ X := by
  conv => arg 2; whnf
  have HXB := Lib.hid x3
  have BN := Lib.hid x2
  have HG := Lib.hid (And.intro hlb (And.intro htx (And.intro hp6 (And.intro h60 h66))))
  have HD := Lib.hid (And.intro x4 (And.intro x5 (And.intro x6 x7)))
  have HZ := Lib.hid (And.intro x8 (And.intro x9 (And.intro x10 (And.intro x11 (And.intro x12 x13)))))
  have bd_0 := (blk_cell x0 0).trans rfl
  have bd_1 := (blk_cell x0 1).trans rfl
  have bd_2 := (blk_cell x0 2).trans rfl
  have bd_3 := (blk_cell x0 3).trans rfl
  have bd_4 := (blk_cell x0 4).trans rfl
  have bz_0 := (blk_cell x1 0).trans rfl
  have bz_1 := (blk_cell x1 1).trans rfl
  have bz_2 := (blk_cell x1 2).trans rfl
  have bz_3 := (blk_cell x1 3).trans rfl
  have bz_4 := (blk_cell x1 4).trans rfl
  clear x0 x1 x2 x3 x4 x5 x6 x7 x8 x9 x10 x11 x12 x13 hlb htx hp6 h60 h66
  by_cases hbig : (3000 : Int) < (zb.size : Int)
  · go_wp2
    go_ret
    exact ⟨rfl, HXB.out⟩
  go_wp2
  generalize hL : World.alloc X _ = L
  have LB0 : Below X.heap.size X L := by rw [← hL]; exact below_alloc (Below.refl _ _) _
  have RL := Lib.hid (show L.heap[X.heap.size]? = some (.cells #[.string b, .int .i64 a, .slice A0 ns.length c0, .slice A1 cs.length c1, .bool cl, .string zb, .int .i64 za, .slice Z0 zn.length z0, .slice Z1 zc.length z1, .bool zl] 50 (0, 0)) by rw [← hL]; exact heap_alloc_new X _)
  have LB := Lib.hid (HXB.out.trans (LB0.mono HXB.out.size))
  have NL := Lib.hid (blk_same BN.out LB0)
  have HT := Lib.hid (two_ideals RL.out (Kd.C_below HD.out.1 LB0) HD.out.2.1 (Kd.C_below HD.out.2.2.1 LB0) HD.out.2.2.2 (Kd.C_below HZ.out.1 LB0) HZ.out.2.1 (Kd.C_below HZ.out.2.2.1 LB0) HZ.out.2.2.2.1 hm0 hm1 HZ.out.2.2.2.2.1 HZ.out.2.2.2.2.2)
  clear hL LB0 RL HD HZ HXB BN bd_0 bz_0 bd_1 bz_1 bd_2 bz_2 bd_3 bz_3 bd_4 bz_4
  go_loopw [158] (fun v Y => ∃ i : Nat, i ≤ 2 ∧ v = .int .i64 (i : Int) ∧ Below L.heap.size L Y) (fun v _ => 2 - (intOf v).toNat)
  case atStart => exact ⟨0, by omega, rfl, Below.refl _ _⟩
  case round =>
    obtain ⟨i, hi, rfl, hXi⟩ := hrel
    by_cases hlt : i < 2
    · obtain ⟨xb, xa, xn, xc, xl, A, c, B, d, hr0, hr1, hr2, hr3, hr4, e0, l0, e1, l1, m0, m1⟩ := HT.out i hlt
      refine it3_round i X.heap.size _ w.heap.size hlt _ (by exact fun c a m v w h => h) HG.out.1 HG.out.2.1 HG.out.2.2.1 HG.out.2.2.2.1 HG.out.2.2.2.2 (hr0 _ hXi) (hr1 _ hXi) (hr2 _ hXi) (hr3 _ hXi) (hr4 _ hXi) (blk_same NL.out hXi) (Kd.C_below e0 hXi) l0 (Kd.C_below e1 hXi) l1 m0 m1 ?_
      intro v14 v28 v30 v31 v32 v33 v34 v35 v36 v38 v39 v40 v41 v42 v43 v44 v45 v46 v47 v48 v49 v50 v51 v52 v159 v160 v161 v162 v163 v164 v165 v166 v167 v168 v169 v170 v171 v172 v173 v174 v175 v176 v177 v178 v179 v180 v181 v182 v183 v184 v185 v186 v187 v188 v189 v190 v191 v192 v193 v194 v195 v196 v197 v198 v199 v200 v201 v202 v203 v204 v205 v206 v207 v208 v209 v210 v211 v212 v213 v214 v215 v216 v217 v218 v219 v220 v221 v222 v223 v224 v225 v226 v227 v228 v229 v230 v231 v232 v233 v234 v235 v236 v237 v238 v239 v240 v241 v242 v243 v244 v245 v246 v247 v248 v249 v250 v251 v252 v253 v254 v255 v256 v257 v258 v259 v260 v261 v262 v263 v264 v265 v266 v267 v268 v269 v270 v271 v272 v273 v274 v275 v276 v277 v278 v279 v280 v281 v282 v283 v284 v285 v286 v287 v288 v289 v290 v291 v292 v293 v294 v295 v296 v297 v298 v299 v300 v301 v302 v303 v304 v305 v306 v307 v308 v309 v310 v311 v312 v313 v314 v315 v316 v317 v318 v319 v320 v321 v322 v323 W' hB'
      refine ⟨⟨_, _, _, _, _, _, _, _, _, _, _, _, _, _, _, _, _, _, _, _, _, _, _, _, _, _, _, _, _, _, _, _, _, _, _, _, _, _, _, _, _, _, _, _, _, _, _, _, _, _, _, _, _, _, _, _, _, _, _, _, _, _, _, _, _, _, _, _, _, _, _, _, _, _, _, _, _, _, _, _, _, _, _, _, _, _, _, _, _, _, _, _, _, _, _, _, _, _, _, _, _, _, _, _, _, _, _, _, _, _, _, _, _, _, _, _, _, _, _, _, _, _, _, _, _, _, _, _, _, _, _, _, _, _, _, _, _, _, _, _, _, _, _, _, _, _, _, _, _, _, _, _, _, _, _, _, _, _, _, _, _, _, _, _, _, _, _, _, _, _, _, _, _, _, _, _, _, _, _, _, _, _, _, _, _, _, _, _, _, _, ⟨i + 1, ?_, ?_, hXi.trans (hB'.mono hXi.size)⟩, rfl⟩, ?_⟩
      · omega
      · exact congrArg (Value.int .i64) (by omega)
      · simp [intOf]; omega
    · obtain rfl : i = 2 := by omega
      have e2 : ((2 : Nat) : Int) = 2 := rfl
      rw [e2]
      clear e2
      have hw := LB.out.trans (hXi.mono LB.out.size)
      go_wp2
      go_ret
      exact ⟨rfl, hw⟩
set_option maxHeartbeats 8000000 in
theorem it_switch {K : Act → World → Prop} {Q : Exit → Act → World → Prop} (gd gz : Nat) {b ob : ByteArray} {a oa n0 n1 n2 p5 p60 : Int} {ns on : List S72} {cs oc : List S74} {cl ocl : Bool} {A0 A1 B0 B1 : Option Addr} {c0 c1 d0 d1 : Nat} (w W9 : World) (hp : ∀ c a (m : Nat) v w, Q (.panic c) (a.put (some m) v) w → Q (.panic c) a w)
    (hbd : W9.heap[gd]? = some (.cells #[.string b, .int .i64 a, .slice A0 ns.length c0, .slice A1 cs.length c1, .bool cl] 50 (0, 0))) (hbz : W9.heap[gz]? = some (.cells #[.string b, .int .i64 a, .slice A0 ns.length c0, .slice A1 cs.length c1, .bool cl] 50 (0, 0))) (hbn : W9.heap[w.heap.size]? = some (.cells #[.int .i64 n0, .int .i64 n1, .int .i64 n2] 46)) (hbo : W9.heap[w.heap.size + 1]? = some (.cells #[.string ob, .int .i64 oa, .slice B0 on.length d0, .slice B1 oc.length d1, .bool ocl] 50 (0, 0))) (hb9 : Below w.heap.size w W9) (hgz : w.heap.size ≤ gz) (hgd : gd ≠ gz) (hgn : w.heap.size ≠ gz)
    (hs0 : Kd.R k72 72 W9 w.heap.size (fun _ => True) (.slice A0 ns.length c0) ns) (hs1 : Kd.R k74 74 W9 w.heap.size (fun _ => True) (.slice A1 cs.length c1) cs) (hon : Kd.C k72 w B0 on.length on) (hd0 : on.length ≤ d0) (hoc : Kd.C k74 w B1 oc.length oc) (hd1 : oc.length ≤ d1)
    (hs : b.size = 2000) (hmany : ns.length + cs.length ≤ 15) (h50 : 0 ≤ p5) (h55 : p5 < 5) (hp60 : u8_pick.f n2 60 = some p60) (h600 : 0 ≤ p60) (h606 : p60 < 60)
    {f0 f1 f2 f3 f4 f5 f6 f7 f8 f9 f11 f13 f14 f15 f16 f17 f18 f19 f20 f21 f22 f23 f24 f27 f28 f29 f30 f31 f32 f33 f34 f35 f36 f37 f38 f39 f40 f41 f42 f43 f44 f45 f46 f47 f48 f49 f50 f51 f52 f53 f54 f55 f56 f57 f58 f59 f60 f61 f62 f63 f64 f65 f66 f67 f68 f69 f70 f71 f72 f73 f74 f75 f76 f77 f78 f79 f80 f81 f82 f83 f84 f85 f86 f87 f88 f89 f90 f91 f92 f93 f94 f95 f96 f97 f148 f149 f150 f151 f152 f153 f154 f155 f156 f157 f158 f159 f160 f161 f162 f163 f164 f165 f166 f167 f168 f169 f170 f171 f172 f173 f174 f175 f176 f177 f178 f179 f180 f181 f182 f183 f184 f185 f186 f187 f188 f189 f190 f191 f192 f193 f194 f195 f196 f197 f198 f199 f200 f201 f202 f203 f204 f205 f206 f207 f208 f209 f210 f211 f212 f213 f214 f215 f216 f217 f218 f219 f220 f221 f222 f223 f224 f225 f226 f227 f228 f229 f230 f231 f232 f233 f234 f235 f236 f237 f238 f239 f240 f241 f242 f243 f244 f245 f246 f247 f248 f249 f250 f251 f252 f253 f254 f255 f256 f257 f258 f259 f260 f261 f262 f263 f264 f265 f266 f267 f268 f269 f270 f271 f272 f273 f274 f275 f276 f277 f278 f279 f280 f281 f282 f283 f284 f285 f286 f287 f288 f289 f290 f291 f292 f293 f294 f295 f296 f297 f298 f299 f300 f301 f302 f303 f304 f305 f306 f307 f308 f309 f310 f311 f312 f313 f314 f315 f316 f317 f318 f319 f320 f321 f322 f323 f324 : Value} {u99 u100 u101 u102 u103 u104 u105 u106 u107 u108 u109 u110 u111 u112 u113 u114 u115 u116 u117 u118 u119 u120 u121 u122 u123 u124 u125 u126 u127 u128 u129 u130 u131 u132 u133 u134 u135 u136 u137 u138 u139 u140 u141 u142 u143 u144 u145 u146 u147 : Value}
    (hK : ∀ (v99 v100 v101 v102 v103 v104 v105 v106 v107 v108 v109 v110 v111 v112 v113 v114 v115 v116 v117 v118 v119 v120 v121 v122 v123 v124 v125 v126 v127 v128 v129 v130 v131 v132 v133 v134 v135 v136 v137 v138 v139 v140 v141 v142 v143 v144 v145 v146 v147 : Value) (zb : ByteArray) (za : Int) (zn : List S72) (zc : List S74) (Z0 Z1 : Option Addr) (z0 z1 : Nat) (zl : Bool) (X : World), X.heap[gd]? = some (.cells #[.string b, .int .i64 a, .slice A0 ns.length c0, .slice A1 cs.length c1, .bool cl] 50 (0, 0)) → X.heap[gz]? = some (.cells #[.string zb, .int .i64 za, .slice Z0 zn.length z0, .slice Z1 zc.length z1, .bool zl] 50 (0, 0)) → X.heap[w.heap.size]? = some (.cells #[.int .i64 n0, .int .i64 n1, .int .i64 n2] 46) → Below w.heap.size w X → Kd.C k72 X A0 ns.length ns → ns.length ≤ c0 → Kd.C k74 X A1 cs.length cs → cs.length ≤ c1 → Kd.C k72 X Z0 zn.length zn → zn.length ≤ z0 → Kd.C k74 X Z1 zc.length zc → zc.length ≤ z1 → zn.length ≤ 18 → zc.length ≤ 18 → K ⟨#[f0, f1, f2, f3, f4, f5, f6, f7, f8, f9, .pointer (some ⟨w.heap.size, 0, none⟩), f11, .pointer (some ⟨w.heap.size + 1, 0, none⟩), f13, f14, f15, f16, f17, f18, f19, f20, f21, f22, f23, f24, .pointer (some ⟨gd, 0, none⟩), .pointer (some ⟨gz, 0, none⟩), f27, f28, f29, f30, f31, f32, f33, f34, f35, f36, f37, f38, f39, f40, f41, f42, f43, f44, f45, f46, f47, f48, f49, f50, f51, f52, f53, f54, f55, f56, f57, f58, f59, f60, f61, f62, f63, f64, f65, f66, f67, f68, f69, f70, f71, f72, f73, f74, f75, f76, f77, f78, f79, f80, f81, f82, f83, f84, f85, f86, f87, f88, f89, f90, f91, f92, f93, f94, f95, f96, f97, .int .i64 p5, v99, v100, v101, v102, v103, v104, v105, v106, v107, v108, v109, v110, v111, v112, v113, v114, v115, v116, v117, v118, v119, v120, v121, v122, v123, v124, v125, v126, v127, v128, v129, v130, v131, v132, v133, v134, v135, v136, v137, v138, v139, v140, v141, v142, v143, v144, v145, v146, v147, f148, f149, f150, f151, f152, f153, f154, f155, f156, f157, f158, f159, f160, f161, f162, f163, f164, f165, f166, f167, f168, f169, f170, f171, f172, f173, f174, f175, f176, f177, f178, f179, f180, f181, f182, f183, f184, f185, f186, f187, f188, f189, f190, f191, f192, f193, f194, f195, f196, f197, f198, f199, f200, f201, f202, f203, f204, f205, f206, f207, f208, f209, f210, f211, f212, f213, f214, f215, f216, f217, f218, f219, f220, f221, f222, f223, f224, f225, f226, f227, f228, f229, f230, f231, f232, f233, f234, f235, f236, f237, f238, f239, f240, f241, f242, f243, f244, f245, f246, f247, f248, f249, f250, f251, f252, f253, f254, f255, f256, f257, f258, f259, f260, f261, f262, f263, f264, f265, f266, f267, f268, f269, f270, f271, f272, f273, f274, f275, f276, f277, f278, f279, f280, f281, f282, f283, f284, f285, f286, f287, f288, f289, f290, f291, f292, f293, f294, f295, f296, f297, f298, f299, f300, f301, f302, f303, f304, f305, f306, f307, f308, f309, f310, f311, f312, f313, f314, f315, f316, f317, f318, f319, f320, f321, f322, f323, f324], []⟩ X) :
    Code.wp Try.prog it_sw (Exit.then K Q) ⟨#[f0, f1, f2, f3, f4, f5, f6, f7, f8, f9, .pointer (some ⟨w.heap.size, 0, none⟩), f11, .pointer (some ⟨w.heap.size + 1, 0, none⟩), f13, f14, f15, f16, f17, f18, f19, f20, f21, f22, f23, f24, .pointer (some ⟨gd, 0, none⟩), .pointer (some ⟨gz, 0, none⟩), f27, f28, f29, f30, f31, f32, f33, f34, f35, f36, f37, f38, f39, f40, f41, f42, f43, f44, f45, f46, f47, f48, f49, f50, f51, f52, f53, f54, f55, f56, f57, f58, f59, f60, f61, f62, f63, f64, f65, f66, f67, f68, f69, f70, f71, f72, f73, f74, f75, f76, f77, f78, f79, f80, f81, f82, f83, f84, f85, f86, f87, f88, f89, f90, f91, f92, f93, f94, f95, f96, f97, .int .i64 p5, u99, u100, u101, u102, u103, u104, u105, u106, u107, u108, u109, u110, u111, u112, u113, u114, u115, u116, u117, u118, u119, u120, u121, u122, u123, u124, u125, u126, u127, u128, u129, u130, u131, u132, u133, u134, u135, u136, u137, u138, u139, u140, u141, u142, u143, u144, u145, u146, u147, f148, f149, f150, f151, f152, f153, f154, f155, f156, f157, f158, f159, f160, f161, f162, f163, f164, f165, f166, f167, f168, f169, f170, f171, f172, f173, f174, f175, f176, f177, f178, f179, f180, f181, f182, f183, f184, f185, f186, f187, f188, f189, f190, f191, f192, f193, f194, f195, f196, f197, f198, f199, f200, f201, f202, f203, f204, f205, f206, f207, f208, f209, f210, f211, f212, f213, f214, f215, f216, f217, f218, f219, f220, f221, f222, f223, f224, f225, f226, f227, f228, f229, f230, f231, f232, f233, f234, f235, f236, f237, f238, f239, f240, f241, f242, f243, f244, f245, f246, f247, f248, f249, f250, f251, f252, f253, f254, f255, f256, f257, f258, f259, f260, f261, f262, f263, f264, f265, f266, f267, f268, f269, f270, f271, f272, f273, f274, f275, f276, f277, f278, f279, f280, f281, f282, f283, f284, f285, f286, f287, f288, f289, f290, f291, f292, f293, f294, f295, f296, f297, f298, f299, f300, f301, f302, f303, f304, f305, f306, f307, f308, f309, f310, f311, f312, f313, f314, f315, f316, f317, f318, f319, f320, f321, f322, f323, f324], []⟩ W9 := by
  conv => arg 2; whnf
  have HK := Lib.hid hK
  have BD := Lib.hid hbd
  have BZ := Lib.hid hbz
  have BN := Lib.hid hbn
  have BO := Lib.hid hbo
  have W9B := Lib.hid hb9
  have S0 := Lib.hid hs0
  have S1 := Lib.hid hs1
  have HF := Lib.hid (And.intro hon (And.intro hoc (And.intro hp60 (And.intro h600 h606))))
  clear hK hbd hbz hbn hbo hb9 hs0 hs1 hon hoc hp60 h600 h606
  have h5 : p5 = 0 ∨ p5 = 1 ∨ p5 = 2 ∨ p5 = 3 ∨ p5 = 4 := by omega
  clear h50 h55
  rcases h5 with rfl | rfl | rfl | rfl | rfl
  · have bd_4 := (blk_cell BD.out 4).trans rfl
    have bz_4 := (blk_cell BZ.out 4).trans rfl
    have bf_4 := blk_frozen BZ.out 4
    go_wp2
    exact HK.out _ _ _ _ _ _ _ _ _ _ _ _ _ _ _ _ _ _ _ _ _ _ _ _ _ _ _ _ _ _ _ _ _ _ _ _ _ _ _ _ _ _ _ _ _ _ _ _ _ b a ns cs A0 A1 c0 c1 (!cl) _ (blk_far1 BD.out hgd _) (set5_4 BZ.out _) (blk_far1 BN.out hgn _) (below_set W9B.out hgz) (Kd.R_reads' (Kd.R_set S0.out BZ.out (by decide) 4 (.bool (!cl)))).2.2 (Kd.R_reads' (Kd.R_set S0.out BZ.out (by decide) 4 (.bool (!cl)))).2.1 (Kd.R_reads' (Kd.R_set S1.out BZ.out (by decide) 4 (.bool (!cl)))).2.2 (Kd.R_reads' (Kd.R_set S1.out BZ.out (by decide) 4 (.bool (!cl)))).2.1 (Kd.R_reads' (Kd.R_set S0.out BZ.out (by decide) 4 (.bool (!cl)))).2.2 (Kd.R_reads' (Kd.R_set S0.out BZ.out (by decide) 4 (.bool (!cl)))).2.1 (Kd.R_reads' (Kd.R_set S1.out BZ.out (by decide) 4 (.bool (!cl)))).2.2 (Kd.R_reads' (Kd.R_set S1.out BZ.out (by decide) 4 (.bool (!cl)))).2.1 (by omega) (by omega)
  · have bz_0 := (blk_cell BZ.out 0).trans rfl
    have bz_1 := (blk_cell BZ.out 1).trans rfl
    have bf_0 := blk_frozen BZ.out 0
    have bf_1 := blk_frozen BZ.out 1
    have bo_0 := (blk_cell BO.out 0).trans rfl
    have bo_1 := (blk_cell BO.out 1).trans rfl
    go_wp2
    exact HK.out _ _ _ _ _ _ _ _ _ _ _ _ _ _ _ _ _ _ _ _ _ _ _ _ _ _ _ _ _ _ _ _ _ _ _ _ _ _ _ _ _ _ _ _ _ _ _ _ _ ob oa ns cs A0 A1 c0 c1 cl _ (blk_far1 (blk_far1 BD.out hgd _) hgd _) (set5_01 BZ.out _ _) (blk_far1 (blk_far1 BN.out hgn _) hgn _) (below_set (below_set W9B.out hgz) hgz) (Kd.R_reads' (Kd.R_set (Kd.R_set S0.out BZ.out (by decide) 0 (.string ob)) (Go.Proofs.YtmkncddbecmlpaaW.PrintWords.blk_set BZ.out 0 (.string ob)) (by decide) 1 (.int .i64 oa))).2.2 (Kd.R_reads' (Kd.R_set (Kd.R_set S0.out BZ.out (by decide) 0 (.string ob)) (Go.Proofs.YtmkncddbecmlpaaW.PrintWords.blk_set BZ.out 0 (.string ob)) (by decide) 1 (.int .i64 oa))).2.1 (Kd.R_reads' (Kd.R_set (Kd.R_set S1.out BZ.out (by decide) 0 (.string ob)) (Go.Proofs.YtmkncddbecmlpaaW.PrintWords.blk_set BZ.out 0 (.string ob)) (by decide) 1 (.int .i64 oa))).2.2 (Kd.R_reads' (Kd.R_set (Kd.R_set S1.out BZ.out (by decide) 0 (.string ob)) (Go.Proofs.YtmkncddbecmlpaaW.PrintWords.blk_set BZ.out 0 (.string ob)) (by decide) 1 (.int .i64 oa))).2.1 (Kd.R_reads' (Kd.R_set (Kd.R_set S0.out BZ.out (by decide) 0 (.string ob)) (Go.Proofs.YtmkncddbecmlpaaW.PrintWords.blk_set BZ.out 0 (.string ob)) (by decide) 1 (.int .i64 oa))).2.2 (Kd.R_reads' (Kd.R_set (Kd.R_set S0.out BZ.out (by decide) 0 (.string ob)) (Go.Proofs.YtmkncddbecmlpaaW.PrintWords.blk_set BZ.out 0 (.string ob)) (by decide) 1 (.int .i64 oa))).2.1 (Kd.R_reads' (Kd.R_set (Kd.R_set S1.out BZ.out (by decide) 0 (.string ob)) (Go.Proofs.YtmkncddbecmlpaaW.PrintWords.blk_set BZ.out 0 (.string ob)) (by decide) 1 (.int .i64 oa))).2.2 (Kd.R_reads' (Kd.R_set (Kd.R_set S1.out BZ.out (by decide) 0 (.string ob)) (Go.Proofs.YtmkncddbecmlpaaW.PrintWords.blk_set BZ.out 0 (.string ob)) (by decide) 1 (.int .i64 oa))).2.1 (by omega) (by omega)
  · obtain ⟨m, hm, hm1, hm3⟩ : ∃ m : Nat, (if (3 : Int) < (on.length : Int) then (3 : Int) else (on.length : Int)) = (m : Int) ∧ m ≤ on.length ∧ m ≤ 3 := by
      by_cases h : 3 < on.length
      · exact ⟨3, by rw [if_pos (by omega)]; rfl, by omega, by omega⟩
      · exact ⟨on.length, by rw [if_neg (by omega)], by omega, by omega⟩
    go_wp2
    refine it_r18 gd gz (w.heap.size + 1) w _ (by exact fun c a m v w h => hp c a m v w h) W9B.out hgz BD.out BZ.out BO.out (Kd.R_reads' S0.out).2.2 (Kd.C_below HF.out.1 W9B.out) hd0 hm hm1 (by omega) S0.out S1.out ?_
    intro Ax cx xs v122 v123 v124 v125 v126 v127 v128 v129 v130 v131 v132 v133 X hxs hXB hXz hXk hXC hXL hX0 hX1
    have hxl : xs.length ≤ 18 := by rw [hxs, List.length_append, List.length_take]; omega
    go_wp2
    exact HK.out _ _ _ _ _ _ _ _ _ _ _ _ _ _ _ _ _ _ _ _ _ _ _ _ _ _ _ _ _ _ _ _ _ _ _ _ _ _ _ _ _ _ _ _ _ _ _ _ _ b a xs cs Ax A1 cx c1 cl X (hXk _ _ hgd BD.out) hXz (hXk _ _ hgn BN.out) hXB (Kd.R_reads' hX0).2.2 (Kd.R_reads' hX0).2.1 (Kd.R_reads' hX1).2.2 (Kd.R_reads' hX1).2.1 hXC hXL (Kd.R_reads' hX1).2.2 (Kd.R_reads' hX1).2.1 hxl (by omega)
  · obtain ⟨m, hm, hm1, hm3⟩ : ∃ m : Nat, (if (3 : Int) < (oc.length : Int) then (3 : Int) else (oc.length : Int)) = (m : Int) ∧ m ≤ oc.length ∧ m ≤ 3 := by
      by_cases h : 3 < oc.length
      · exact ⟨3, by rw [if_pos (by omega)]; rfl, by omega, by omega⟩
      · exact ⟨oc.length, by rw [if_neg (by omega)], by omega, by omega⟩
    go_wp2
    refine it_r20 gd gz (w.heap.size + 1) w _ (by exact fun c a m v w h => hp c a m v w h) W9B.out hgz BD.out BZ.out BO.out (Kd.R_reads' S1.out).2.2 (Kd.C_below HF.out.2.1 W9B.out) hd1 hm hm1 (by omega) S0.out S1.out ?_
    intro Ax cx xs v136 v137 v138 v139 v140 v141 v142 v143 v144 v145 v146 v147 X hxs hXB hXz hXk hXC hXL hX0 hX1
    have hxl : xs.length ≤ 18 := by rw [hxs, List.length_append, List.length_take]; omega
    go_wp2
    exact HK.out _ _ _ _ _ _ _ _ _ _ _ _ _ _ _ _ _ _ _ _ _ _ _ _ _ _ _ _ _ _ _ _ _ _ _ _ _ _ _ _ _ _ _ _ _ _ _ _ _ b a ns xs A0 Ax c0 cx cl X (hXk _ _ hgd BD.out) hXz (hXk _ _ hgn BN.out) hXB (Kd.R_reads' hX0).2.2 (Kd.R_reads' hX0).2.1 (Kd.R_reads' hX1).2.2 (Kd.R_reads' hX1).2.1 (Kd.R_reads' hX0).2.2 (Kd.R_reads' hX0).2.1 hXC hXL (by omega) hxl
  · go_wp2
    refine it_r12 w.heap.size gz w _ (by exact fun c a m v w h => hp c a m v w h) W9B.out hgz BZ.out BN.out HF.out.2.2.1 hs HF.out.2.2.2.1 HF.out.2.2.2.2 S0.out S1.out ?_
    intro a2 v99 v100 v101 v102 v103 v104 v105 v106 v107 v108 X hXB hXz hXk hX0 hX1
    go_wp2
    exact HK.out _ _ _ _ _ _ _ _ _ _ _ _ _ _ _ _ _ _ _ _ _ _ _ _ _ _ _ _ _ _ _ _ _ _ _ _ _ _ _ _ _ _ _ _ _ _ _ _ _ b a2 ns cs A0 A1 c0 c1 cl X (hXk _ _ hgd BD.out) hXz (hXk _ _ hgn BN.out) hXB (Kd.R_reads' hX0).2.2 (Kd.R_reads' hX0).2.1 (Kd.R_reads' hX1).2.2 (Kd.R_reads' hX1).2.1 (Kd.R_reads' hX0).2.2 (Kd.R_reads' hX0).2.1 (Kd.R_reads' hX1).2.2 (Kd.R_reads' hX1).2.1 (by omega) (by omega)
set_option maxHeartbeats 8000000 in
theorem itells_calls (l0 : List Int) (small : Bool) (raw : List S46) (n0 n1 n2 : Int) (any ob : ByteArray) (oa : Int) (on : List S72) (oc : List S74) (ocl : Bool) (at_ : Int) {D0 D1 B0 B1 : Option Addr} {e0 e1 d0 d1 : Nat} (w : World)
    (hdr : Kd.C (Kd.int .i64) w D0 l0.length l0) (he0 : l0.length ≤ e0) (hraw : Kd.C k46 w D1 raw.length raw) (he1 : raw.length ≤ e1) (hon : Kd.C k72 w B0 on.length on) (hd0 : on.length ≤ d0) (hoc : Kd.C k74 w B1 oc.length oc) (hd1 : oc.length ≤ d1)
    {b : ByteArray} {a : Int} {ns : List S72} {cs : List S74} {cl : Bool} (fd fi : Nat) (hdraws : u8_Draws.f fd l0 small = some (b, 0)) (hs : b.size = 2000) (hid : u8_Ideal.f fi b 0 raw = some (b, a, ns, cs, cl)) (hmany : ns.length + cs.length ≤ 15)
    {p5 p60 p6 : Int} {lb tx : ByteArray} (hp5 : u8_pick.f at_ 5 = some p5) (h50 : 0 ≤ p5) (h55 : p5 < 5) (hp60 : u8_pick.f n2 60 = some p60) (h600 : 0 ≤ p60) (h606 : p60 < 60) (hp6 : u8_pick.f n1 6 = some p6) (h60 : 0 ≤ p6) (h66 : p6 < 6) (hlb : u8_Label.f n1 = some lb) (htx : u8_Text.f n2 = some tx) :
    Calls Try.prog 8 #[.slice D0 l0.length e0, .bool small, .slice D1 raw.length e1, .agg #[.int .i64 n0, .int .i64 n1, .int .i64 n2], .string any, .agg #[.string ob, .int .i64 oa, .slice B0 on.length d0, .slice B1 oc.length d1, .bool ocl], .int .i64 at_] w fun e w' => e = .returned (.bool true) ∧ Below w.heap.size w w' := by
  have HAW := Lib.hid (fun W => u8_awake.calls 5 true W (awake8 0))
  have HDR := Lib.hid (fun W (h : Below w.heap.size w W) => u8_Draws.calls fd D0 e0 l0 small b 0 W (Kd.C_below hdr h) he0 hdraws)
  have HID := Lib.hid (fun W (h : Below w.heap.size w W) => u8_Ideal.calls fi b 0 D1 e1 raw b a ns cs cl W (Kd.C_below hraw h) he1 hid)
  have HP5 := Lib.hid (fun W => (u8_pick.calls at_ 5 p5 W hp5).mono (fun e w' h => (⟨h.1, h.2.below⟩ : e = .returned (.int .i64 p5) ∧ Below W.heap.size W w')))
  have HG := Lib.hid (And.intro hlb (And.intro htx (And.intro hp6 (And.intro h60 h66))))
  have HF := Lib.hid (And.intro hon (And.intro hoc (And.intro hp60 (And.intro h600 h606))))
  have HN1 := Lib.hid (fun W => ideal_New.calls b 0 (newS b 0).1 (newS b 0).2.1 (newS b 0).2.2.1 (newS b 0).2.2.2.1 (newS b 0).2.2.2.2.1 (newS b 0).2.2.2.2.2 W (newS_eq b 0))
  have HN2 := Lib.hid (fun W => r8_New.calls b 0 (newS b 0).1 (newS b 0).2.1 (newS b 0).2.2.1 (newS b 0).2.2.2.1 (newS b 0).2.2.2.2.1 (newS b 0).2.2.2.2.2 W (rnewS_eq b 0))
  have HN3 := Lib.hid (fun W => ideal_New.calls ob oa (newS ob oa).1 (newS ob oa).2.1 (newS ob oa).2.2.1 (newS ob oa).2.2.2.1 (newS ob oa).2.2.2.2.1 (newS ob oa).2.2.2.2.2 W (newS_eq ob oa))
  have HN4 := Lib.hid (fun W => r8_New.calls ob oa (newS ob oa).1 (newS ob oa).2.1 (newS ob oa).2.2.1 (newS ob oa).2.2.2.1 (newS ob oa).2.2.2.2.1 (newS ob oa).2.2.2.2.2 W (rnewS_eq ob oa))
  have hnl := newS_len b 0
  have HSN := Lib.hid (fun (rb : ByteArray) (ra : Int) (rn : List S72) (rc : List S74) (rl : Bool) (g0 : rn.length ≤ 2000) (g1 : rc.length ≤ 2000) W A0 c0 A1 c1 B0 d0 B1 d1 (x0 : Kd.C k72 W A0 rn.length rn) (y0 : rn.length ≤ c0) (x1 : Kd.C k74 W A1 rc.length rc) (y1 : rc.length ≤ c1) (x2 : Kd.C k72 W B0 rn.length rn) (y2 : rn.length ≤ d0) (x3 : Kd.C k74 W B1 rc.length rc) (y3 : rc.length ≤ d1) => r8_Same.calls (rn.length + rc.length + 3) rb ra A0 c0 rn A1 c1 rc rl rb ra B0 d0 rn B1 d1 rc rl true W x0 y0 x1 y1 x2 y2 x3 y3 (same_refl ⟨g0, g1⟩ (by omega)))
  generalize newS ob oa = rr at *
  obtain ⟨q1, q2, qn, qc, ql, qe⟩ := rr
  generalize newS b 0 = rr at *
  obtain ⟨r1, r2, rn, rc, rl, re⟩ := rr
  dsimp only at hnl
  have HSN := Lib.hid (HSN.out r1 r2 rn rc rl (by omega) (by omega))
  clear hnl hdr hraw hon hoc hdraws hid hp5 hp60 hp6 hlb htx h60 h66 h600 h606 he0 he1
  have hb3 : ¬ (3000 : Int) < (b.size : Int) := by omega
  go_enter Try.func8, Try.ntmps8
  go_wp2_with (first
    | (go_at_call 28; with_reducible refine (HAW.out _).mono ?_; rintro e W1 ⟨rfl, hb⟩; have BN := Lib.hid (blk_same (bkA (heap_alloc_new w (.cells #[.int .i64 n0, .int .i64 n1, .int .i64 n2] 46)) (.cells #[.string ob, .int .i64 oa, .slice B0 on.length d0, .slice B1 oc.length d1, .bool ocl] 50)) hb); have BO := Lib.hid (show W1.heap[w.heap.size + 1]? = some (.cells #[.string ob, .int .i64 oa, .slice B0 on.length d0, .slice B1 oc.length d1, .bool ocl] 50) from blk_same (heap_alloc2_new w _ _) hb); have W1B := Lib.hid ((below_alloc (below_alloc (Below.refl w.heap.size w) (.cells #[.int .i64 n0, .int .i64 n1, .int .i64 n2] 46)) (.cells #[.string ob, .int .i64 oa, .slice B0 on.length d0, .slice B1 oc.length d1, .bool ocl] 50)).trans (hb.mono (below_alloc (below_alloc (Below.refl w.heap.size w) (.cells #[.int .i64 n0, .int .i64 n1, .int .i64 n2] 46)) (.cells #[.string ob, .int .i64 oa, .slice B0 on.length d0, .slice B1 oc.length d1, .bool ocl] 50)).size)); clear hb)
    | (go_at_call 29; with_reducible refine (HDR.out _ W1B.out).mono ?_; rintro e W2 ⟨rfl, hb⟩; have m_ := Lib.hid (blk_same (BN.out) hb); clear BN; have BN := m_; clear m_; have m_ := Lib.hid (blk_same (BO.out) hb); clear BO; have BO := m_; clear m_; have W2B := Lib.hid (W1B.out.trans (hb.mono W1B.out.size)); clear hb)
    | (go_at_call 30; with_reducible refine (HN1.out _).mono ?_; rintro e W3 ⟨v0_, v1_, rfl, h0, h1, hb⟩; obtain ⟨Ba, da, rfl⟩ := Kd.R_slice h0; obtain ⟨Ea, ea, rfl⟩ := Kd.R_slice h1; have m_ := Lib.hid (blk_same (bkA BN.out (.cells #[.string b, .int .i64 0] 23)) hb); clear BN; have BN := m_; clear m_; have m_ := Lib.hid (blk_same (bkA BO.out (.cells #[.string b, .int .i64 0] 23)) hb); clear BO; have BO := m_; clear m_; have W3B := Lib.hid ((below_alloc W2B.out (.cells #[.string b, .int .i64 0] 23)).trans (hb.mono (below_alloc W2B.out (.cells #[.string b, .int .i64 0] 23)).size)); have BT := Lib.hid (blk_same (heap_alloc_new W2 (.cells #[.string b, .int .i64 0] 23)) hb); have Ha0 := Lib.hid h0; have Ha1 := Lib.hid h1; have bt_0 := (fun o : Obj => (blk_cell (bkA BT.out o) 0).trans rfl); have bt_1 := (fun o : Obj => (blk_cell (bkA BT.out o) 1).trans rfl); clear hb h0 h1)
    | (go_at_call 31; with_reducible refine (HN2.out _).mono ?_; rintro e W4 ⟨v0_, v1_, rfl, h0, h1, hb⟩; obtain ⟨Bb, db, rfl⟩ := Kd.R_slice h0; obtain ⟨Eb, eb, rfl⟩ := Kd.R_slice h1; have m_ := Lib.hid (blk_same (bkA BN.out (.cells #[.string r1, .int .i64 r2, .slice Ba rn.length da, .slice Ea rc.length ea, .bool rl] 50)) hb); clear BN; have BN := m_; clear m_; have m_ := Lib.hid (blk_same (bkA BO.out (.cells #[.string r1, .int .i64 r2, .slice Ba rn.length da, .slice Ea rc.length ea, .bool rl] 50)) hb); clear BO; have BO := m_; clear m_; have m_ := Lib.hid (blk_same (bkA BT.out (.cells #[.string r1, .int .i64 r2, .slice Ba rn.length da, .slice Ea rc.length ea, .bool rl] 50)) hb); clear BT; have BT := m_; clear m_; have W4B := Lib.hid ((below_alloc W3B.out (.cells #[.string r1, .int .i64 r2, .slice Ba rn.length da, .slice Ea rc.length ea, .bool rl] 50)).trans (hb.mono (below_alloc W3B.out (.cells #[.string r1, .int .i64 r2, .slice Ba rn.length da, .slice Ea rc.length ea, .bool rl] 50)).size)); have B17 := Lib.hid (blk_same (heap_alloc_new W3 (.cells #[.string r1, .int .i64 r2, .slice Ba rn.length da, .slice Ea rc.length ea, .bool rl] 50)) hb); have Hb0 := Lib.hid h0; have Hb1 := Lib.hid h1; have Ka0 := Lib.hid (Kd.R_below (Kd.R_alloc Ha0.out (.cells #[.string r1, .int .i64 r2, .slice Ba rn.length da, .slice Ea rc.length ea, .bool rl] 50)) hb); have Ka1 := Lib.hid (Kd.R_below (Kd.R_alloc Ha1.out (.cells #[.string r1, .int .i64 r2, .slice Ba rn.length da, .slice Ea rc.length ea, .bool rl] 50)) hb); clear bt_0 bt_1 Ha0 Ha1; have bo_0 := (fun o : Obj => (blk_cell (bkA BO.out o) 0).trans rfl); have bo_1 := (fun o : Obj => (blk_cell (bkA BO.out o) 1).trans rfl); clear hb h0 h1)
    | (go_at_call 30; with_reducible refine (HN3.out _).mono ?_; rintro e W5 ⟨v0_, v1_, rfl, h0, h1, hb⟩; obtain ⟨Bc, dc, rfl⟩ := Kd.R_slice h0; obtain ⟨Ec, ec, rfl⟩ := Kd.R_slice h1; have m_ := Lib.hid (blk_same (bkA BN.out (.cells #[.string r1, .int .i64 r2, .slice Bb rn.length db, .slice Eb rc.length eb, .bool rl] 50)) hb); clear BN; have BN := m_; clear m_; have m_ := Lib.hid (blk_same (bkA BO.out (.cells #[.string r1, .int .i64 r2, .slice Bb rn.length db, .slice Eb rc.length eb, .bool rl] 50)) hb); clear BO; have BO := m_; clear m_; have m_ := Lib.hid (blk_same (bkA BT.out (.cells #[.string r1, .int .i64 r2, .slice Bb rn.length db, .slice Eb rc.length eb, .bool rl] 50)) hb); clear BT; have BT := m_; clear m_; have m_ := Lib.hid (blk_same (bkA B17.out (.cells #[.string r1, .int .i64 r2, .slice Bb rn.length db, .slice Eb rc.length eb, .bool rl] 50)) hb); clear B17; have B17 := m_; clear m_; have W5B := Lib.hid ((below_alloc W4B.out (.cells #[.string r1, .int .i64 r2, .slice Bb rn.length db, .slice Eb rc.length eb, .bool rl] 50)).trans (hb.mono (below_alloc W4B.out (.cells #[.string r1, .int .i64 r2, .slice Bb rn.length db, .slice Eb rc.length eb, .bool rl] 50)).size)); have B19 := Lib.hid (blk_same (heap_alloc_new W4 (.cells #[.string r1, .int .i64 r2, .slice Bb rn.length db, .slice Eb rc.length eb, .bool rl] 50)) hb); have m_ := Lib.hid (Kd.R_below (Kd.R_alloc Ka0.out (.cells #[.string r1, .int .i64 r2, .slice Bb rn.length db, .slice Eb rc.length eb, .bool rl] 50)) hb); clear Ka0; have Ka0 := m_; clear m_; have m_ := Lib.hid (Kd.R_below (Kd.R_alloc Ka1.out (.cells #[.string r1, .int .i64 r2, .slice Bb rn.length db, .slice Eb rc.length eb, .bool rl] 50)) hb); clear Ka1; have Ka1 := m_; clear m_; have m_ := Lib.hid (Kd.R_below (Kd.R_alloc Hb0.out (.cells #[.string r1, .int .i64 r2, .slice Bb rn.length db, .slice Eb rc.length eb, .bool rl] 50)) hb); clear Hb0; have Hb0 := m_; clear m_; have m_ := Lib.hid (Kd.R_below (Kd.R_alloc Hb1.out (.cells #[.string r1, .int .i64 r2, .slice Bb rn.length db, .slice Eb rc.length eb, .bool rl] 50)) hb); clear Hb1; have Hb1 := m_; clear m_; clear bo_0 bo_1; have bo_0 := (fun o : Obj => (blk_cell (bkA BO.out o) 0).trans rfl); have bo_1 := (fun o : Obj => (blk_cell (bkA BO.out o) 1).trans rfl); clear hb h0 h1)
    | (go_at_call 31; with_reducible refine (HN4.out _).mono ?_; rintro e W6 ⟨v0_, v1_, rfl, h0, h1, hb⟩; obtain ⟨Bf, df, rfl⟩ := Kd.R_slice h0; obtain ⟨Ef, ef, rfl⟩ := Kd.R_slice h1; have m_ := Lib.hid (blk_same (bkA BN.out (.cells #[.string q1, .int .i64 q2, .slice Bc qn.length dc, .slice Ec qc.length ec, .bool ql] 50)) hb); clear BN; have BN := m_; clear m_; have m_ := Lib.hid (blk_same (bkA BO.out (.cells #[.string q1, .int .i64 q2, .slice Bc qn.length dc, .slice Ec qc.length ec, .bool ql] 50)) hb); clear BO; have BO := m_; clear m_; have m_ := Lib.hid (blk_same (bkA BT.out (.cells #[.string q1, .int .i64 q2, .slice Bc qn.length dc, .slice Ec qc.length ec, .bool ql] 50)) hb); clear BT; have BT := m_; clear m_; have m_ := Lib.hid (blk_same (bkA B17.out (.cells #[.string q1, .int .i64 q2, .slice Bc qn.length dc, .slice Ec qc.length ec, .bool ql] 50)) hb); clear B17; have B17 := m_; clear m_; have m_ := Lib.hid (blk_same (bkA B19.out (.cells #[.string q1, .int .i64 q2, .slice Bc qn.length dc, .slice Ec qc.length ec, .bool ql] 50)) hb); clear B19; have B19 := m_; clear m_; have W6B := Lib.hid ((below_alloc W5B.out (.cells #[.string q1, .int .i64 q2, .slice Bc qn.length dc, .slice Ec qc.length ec, .bool ql] 50)).trans (hb.mono (below_alloc W5B.out (.cells #[.string q1, .int .i64 q2, .slice Bc qn.length dc, .slice Ec qc.length ec, .bool ql] 50)).size)); have m_ := Lib.hid (Kd.R_below (Kd.R_alloc Ka0.out (.cells #[.string q1, .int .i64 q2, .slice Bc qn.length dc, .slice Ec qc.length ec, .bool ql] 50)) hb); clear Ka0; have Ka0 := m_; clear m_; have m_ := Lib.hid (Kd.R_below (Kd.R_alloc Ka1.out (.cells #[.string q1, .int .i64 q2, .slice Bc qn.length dc, .slice Ec qc.length ec, .bool ql] 50)) hb); clear Ka1; have Ka1 := m_; clear m_; have m_ := Lib.hid (Kd.R_below (Kd.R_alloc Hb0.out (.cells #[.string q1, .int .i64 q2, .slice Bc qn.length dc, .slice Ec qc.length ec, .bool ql] 50)) hb); clear Hb0; have Hb0 := m_; clear m_; have m_ := Lib.hid (Kd.R_below (Kd.R_alloc Hb1.out (.cells #[.string q1, .int .i64 q2, .slice Bc qn.length dc, .slice Ec qc.length ec, .bool ql] 50)) hb); clear Hb1; have Hb1 := m_; clear m_; clear bo_0 bo_1; have ba_0 := (fun o : Obj => (blk_cell (bkA B17.out o) 0).trans rfl); have ba_1 := (fun o : Obj => (blk_cell (bkA B17.out o) 1).trans rfl); have ba_2 := (fun o : Obj => (blk_cell (bkA B17.out o) 2).trans rfl); have ba_3 := (fun o : Obj => (blk_cell (bkA B17.out o) 3).trans rfl); have ba_4 := (fun o : Obj => (blk_cell (bkA B17.out o) 4).trans rfl); have bb_0 := (fun o : Obj => (blk_cell (bkA B19.out o) 0).trans rfl); have bb_1 := (fun o : Obj => (blk_cell (bkA B19.out o) 1).trans rfl); have bb_2 := (fun o : Obj => (blk_cell (bkA B19.out o) 2).trans rfl); have bb_3 := (fun o : Obj => (blk_cell (bkA B19.out o) 3).trans rfl); have bb_4 := (fun o : Obj => (blk_cell (bkA B19.out o) 4).trans rfl); clear hb h0 h1)
    | (go_at_call 32; with_reducible refine (HSN.out _ _ _ _ _ _ _ _ _ (Kd.R_reads' (Kd.R_alloc Ka0.out _)).2.2 (Kd.R_reads' Ka0.out).2.1 (Kd.R_reads' (Kd.R_alloc Ka1.out _)).2.2 (Kd.R_reads' Ka1.out).2.1 (Kd.R_reads' (Kd.R_alloc Hb0.out _)).2.2 (Kd.R_reads' Hb0.out).2.1 (Kd.R_reads' (Kd.R_alloc Hb1.out _)).2.2 (Kd.R_reads' Hb1.out).2.1).mono ?_; rintro e W7 ⟨rfl, hb⟩; have m_ := Lib.hid (blk_same (bkA BN.out (.cells #[.string q1, .int .i64 q2, .slice Bf qn.length df, .slice Ef qc.length ef, .bool ql] 50)) hb); clear BN; have BN := m_; clear m_; have m_ := Lib.hid (blk_same (bkA BO.out (.cells #[.string q1, .int .i64 q2, .slice Bf qn.length df, .slice Ef qc.length ef, .bool ql] 50)) hb); clear BO; have BO := m_; clear m_; have m_ := Lib.hid (blk_same (bkA BT.out (.cells #[.string q1, .int .i64 q2, .slice Bf qn.length df, .slice Ef qc.length ef, .bool ql] 50)) hb); clear BT; have BT := m_; clear m_; have W7B := Lib.hid ((below_alloc W6B.out (.cells #[.string q1, .int .i64 q2, .slice Bf qn.length df, .slice Ef qc.length ef, .bool ql] 50)).trans (hb.mono (below_alloc W6B.out (.cells #[.string q1, .int .i64 q2, .slice Bf qn.length df, .slice Ef qc.length ef, .bool ql] 50)).size)); clear ba_0 ba_1 ba_2 ba_3 ba_4 bb_0 bb_1 bb_2 bb_3 bb_4 Ka0 Ka1 Hb0 Hb1 B17 B19; have bt_0 := (blk_cell BT.out 0).trans rfl; have bt_1 := (blk_cell BT.out 1).trans rfl; clear hb)
    | (go_at_call 33; with_reducible refine (HID.out _ W7B.out).mono ?_; rintro e W8 ⟨v0_, v1_, rfl, h0, h1, hb⟩; obtain ⟨A0, c0, rfl⟩ := Kd.R_slice h0; obtain ⟨A1, c1, rfl⟩ := Kd.R_slice h1; have m_ := Lib.hid (blk_same (BN.out) hb); clear BN; have BN := m_; clear m_; have m_ := Lib.hid (blk_same (BO.out) hb); clear BO; have BO := m_; clear m_; have W8B := Lib.hid (W7B.out.trans (hb.mono W7B.out.size)); have R0 := Lib.hid (Kd.R_lower h0 W7B.out.size); have R1 := Lib.hid (Kd.R_lower h1 W7B.out.size); clear bt_0 bt_1 BT hb h0 h1))
  refine (HP5.out _).mono ?_
  rintro e W9 ⟨rfl, hb⟩
  have BD := Lib.hid (blk_same (bkA (heap_alloc_new W8 (.cells #[.string b, .int .i64 a, .slice A0 ns.length c0, .slice A1 cs.length c1, .bool cl] 50)) (.cells #[.string b, .int .i64 a, .slice A0 ns.length c0, .slice A1 cs.length c1, .bool cl] 50)) hb)
  have BZ := Lib.hid (show W9.heap[W8.heap.size + 1]? = some (.cells #[.string b, .int .i64 a, .slice A0 ns.length c0, .slice A1 cs.length c1, .bool cl] 50) from blk_same (heap_alloc2_new W8 _ _) hb)
  have m_ := Lib.hid (blk_same (bkA (bkA BN.out (.cells #[.string b, .int .i64 a, .slice A0 ns.length c0, .slice A1 cs.length c1, .bool cl] 50)) (.cells #[.string b, .int .i64 a, .slice A0 ns.length c0, .slice A1 cs.length c1, .bool cl] 50)) hb)
  clear BN
  have BN := m_
  clear m_
  have m_ := Lib.hid (blk_same (bkA (bkA BO.out (.cells #[.string b, .int .i64 a, .slice A0 ns.length c0, .slice A1 cs.length c1, .bool cl] 50)) (.cells #[.string b, .int .i64 a, .slice A0 ns.length c0, .slice A1 cs.length c1, .bool cl] 50)) hb)
  clear BO
  have BO := m_
  clear m_
  have W9B := Lib.hid ((below_alloc (below_alloc W8B.out (.cells #[.string b, .int .i64 a, .slice A0 ns.length c0, .slice A1 cs.length c1, .bool cl] 50)) (.cells #[.string b, .int .i64 a, .slice A0 ns.length c0, .slice A1 cs.length c1, .bool cl] 50)).trans (hb.mono (below_alloc (below_alloc W8B.out (.cells #[.string b, .int .i64 a, .slice A0 ns.length c0, .slice A1 cs.length c1, .bool cl] 50)) (.cells #[.string b, .int .i64 a, .slice A0 ns.length c0, .slice A1 cs.length c1, .bool cl] 50)).size))
  have S0 := Lib.hid (Kd.R_below (Kd.R_alloc (Kd.R_alloc R0.out (.cells #[.string b, .int .i64 a, .slice A0 ns.length c0, .slice A1 cs.length c1, .bool cl] 50)) (.cells #[.string b, .int .i64 a, .slice A0 ns.length c0, .slice A1 cs.length c1, .bool cl] 50)) hb)
  have S1 := Lib.hid (Kd.R_below (Kd.R_alloc (Kd.R_alloc R1.out (.cells #[.string b, .int .i64 a, .slice A0 ns.length c0, .slice A1 cs.length c1, .bool cl] 50)) (.cells #[.string b, .int .i64 a, .slice A0 ns.length c0, .slice A1 cs.length c1, .bool cl] 50)) hb)
  have hgz : w.heap.size ≤ W8.heap.size + 1 := by have := W8B.out.size; omega
  have hgd : W8.heap.size ≠ W8.heap.size + 1 := by omega
  have hgn : w.heap.size ≠ W8.heap.size + 1 := by have := W8B.out.size; omega
  clear hb R0 R1 W8B HP5
  clear HAW HDR HID HN1 HN2 HN3 HN4 HSN
  rename_i K0 a0 K1 a1 K2 a2
  refine a2 _ _ ?_
  refine (show K1 _ _ from a1 _ _ ?_)
  refine (it_switch W8.heap.size (W8.heap.size + 1) w W9 ?_ BD.out BZ.out BN.out BO.out W9B.out hgz hgd hgn S0.out S1.out HF.out.1 hd0 HF.out.2.1 hd1 hs hmany h50 h55 HF.out.2.2.1 HF.out.2.2.2.1 HF.out.2.2.2.2 ?_)
  · exact fun c a m v w h => h
  intro v99 v100 v101 v102 v103 v104 v105 v106 v107 v108 v109 v110 v111 v112 v113 v114 v115 v116 v117 v118 v119 v120 v121 v122 v123 v124 v125 v126 v127 v128 v129 v130 v131 v132 v133 v134 v135 v136 v137 v138 v139 v140 v141 v142 v143 v144 v145 v146 v147 zb za zn zc Z0 Z1 z0 z1 zl X x0 x1 x2 x3 x4 x5 x6 x7 x8 x9 x10 x11 x12 x13
  exact a0 _ _ (it_tail W8.heap.size (W8.heap.size + 1) w X HG.out.1 HG.out.2.1 HG.out.2.2.1 HG.out.2.2.2.1 HG.out.2.2.2.2 (by omega) (by omega) x0 x1 x2 x3 x4 x5 x6 x7 x8 x9 x10 x11 x12 x13)
end Go.Proofs.Ytmkncddbecmlpaa.Pr
end
section
set_option linter.unusedVariables false
namespace Go.Proofs.Ytmkncddbecmlpaa.Pr
open Go.RowKit Go.Proofs.YtmkncddbecmlpaaW.PrintWords Go.ChangeShapes Go.WideShapes Go.ChangeAt
section
variable {H : Type} {enc : TypeId × Value → H} {w : World} {base : Nat} {spare : Nat → Bool} {held : Bool} {fuel : Nat}
set_option maxRecDepth 100000 in
theorem open_72 {cs : List Value} {x : DataW H × List MemPlace} (h : DataW.trod enc Try.prog w base spare held fuel 72 cs = some x) :
    ∃ s : S72, cs = [.string s.f0, .string s.f1] := by
  obtain ⟨y0, y1, n, _, hl, h0, h1⟩ := trod_struct2 Try.underlying72 h
  have hc : Try.prog.cellsOf 72 = 2 := by kernel_rfl
  have hc9 : Try.prog.cellsOf 9 = 1 := by kernel_rfl
  rw [hc] at hl
  match cs, hl with
  | [u0, u1], _ =>
    dsimp only at h0 h1
    rw [hc9] at h0 h1
    obtain ⟨s0, e0, _, _⟩ := DataW.trod_string Try.underlying9 h0
    obtain ⟨s1, e1, _, _⟩ := DataW.trod_string Try.underlying9 h1
    simp at e0 e1
    subst e0
    subst e1
    exact ⟨⟨s0, s1⟩, rfl⟩
set_option maxRecDepth 100000 in
theorem open_74 {cs : List Value} {x : DataW H × List MemPlace} (h : DataW.trod enc Try.prog w base spare held fuel 74 cs = some x) :
    ∃ s : S74, cs = [.string s.f0, .string s.f1, .string s.f2] := by
  obtain ⟨y0, y1, y2, n, _, hl, h0, h1, h2⟩ := Go.Deep.trod_struct3 Try.underlying74 h
  have hc : Try.prog.cellsOf 74 = 3 := by kernel_rfl
  have hc9 : Try.prog.cellsOf 9 = 1 := by kernel_rfl
  rw [hc] at hl
  match cs, hl with
  | [u0, u1, u2], _ =>
    dsimp only at h0 h1 h2
    rw [hc9] at h0 h1 h2
    obtain ⟨s0, e0, _, _⟩ := DataW.trod_string Try.underlying9 h0
    obtain ⟨s1, e1, _, _⟩ := DataW.trod_string Try.underlying9 h1
    obtain ⟨s2, e2, _, _⟩ := DataW.trod_string Try.underlying9 h2
    simp at e0 e1 e2
    subst e0
    subst e1
    subst e2
    exact ⟨⟨s0, s1, s2⟩, rfl⟩
theorem open_rows72 {a : Option Addr} {len cap : Nat} {x : DataW H × List MemPlace} (hf : DataW.trod enc Try.prog w base spare held fuel 47 [.slice a len cap] = some x) :
    ∃ l : List S72, len = l.length ∧ Kd.C k72 w a l.length l ∧ l.length ≤ cap ∧ l.length ≤ maxLen := by
  have hc : Try.prog.cellsOf 72 = 2 := by kernel_rfl
  rcases DataW.trod_slice Try.underlying47 hf with ⟨hcs, _⟩ | ⟨ad, l, c, elems, rest, n, rfl, hcs, _, _, hlc, hcm, hel, hcell, _⟩
  · simp at hcs
    obtain ⟨rfl, rfl, rfl⟩ := hcs
    exact ⟨[], rfl, ⟨rfl, by simp, fun h => absurd h (by simp)⟩, by simp, by simp⟩
  · simp at hcs
    obtain ⟨rfl, rfl, rfl⟩ := hcs
    rw [hc] at hcell
    have each : ∀ i, i < len → ∃ s : S72, (∀ j u, ([.string s.f0, .string s.f1] : List Value)[j]? = some u → w.cell? (ad.add (i * 2 + j)) = some u) := fun i hi => by
      have h1 := hcell i hi
      rw [List.getElem?_eq_getElem (by omega), Option.bind_eq_some_iff] at h1
      obtain ⟨cs, h2, h3⟩ := h1
      obtain ⟨s, rfl⟩ := open_72 h3
      refine ⟨s, fun j u hj => ?_⟩
      have h4 := (World.cells?_some h2).2.2 j (by
        have := (List.getElem?_eq_some_iff.1 hj).1
        simpa using this)
      rw [hj] at h4
      rw [← h4, Addr.add_add]
    clear hcell
    have hs : ∃ l : List S72, l.length = len ∧ ∀ i s, l[i]? = some s → (∀ j u, ([.string s.f0, .string s.f1] : List Value)[j]? = some u → w.cell? (ad.add (i * 2 + j)) = some u) := by
      refine ⟨(List.range len).map fun i => if hi : i < len then (each i hi).choose else z72, by simp, fun i s hi => ?_⟩
      have hl := (List.getElem?_eq_some_iff.1 hi).1
      simp at hl
      simp [hl] at hi
      subst hi
      exact (each i hl).choose_spec
    obtain ⟨l, rfl, hl⟩ := hs
    have hmax : maxLen ≤ 9223372036854775807 := by decide
    exact ⟨l, rfl, ⟨rfl, by omega, fun _ => ⟨ad, rfl, fun j s hj => ⟨_, rfl, k72_mk w s, hl j s hj⟩⟩⟩, hlc, by omega⟩
theorem open_rows74 {a : Option Addr} {len cap : Nat} {x : DataW H × List MemPlace} (hf : DataW.trod enc Try.prog w base spare held fuel 48 [.slice a len cap] = some x) :
    ∃ l : List S74, len = l.length ∧ Kd.C k74 w a l.length l ∧ l.length ≤ cap ∧ l.length ≤ maxLen := by
  have hc : Try.prog.cellsOf 74 = 3 := by kernel_rfl
  rcases DataW.trod_slice Try.underlying48 hf with ⟨hcs, _⟩ | ⟨ad, l, c, elems, rest, n, rfl, hcs, _, _, hlc, hcm, hel, hcell, _⟩
  · simp at hcs
    obtain ⟨rfl, rfl, rfl⟩ := hcs
    exact ⟨[], rfl, ⟨rfl, by simp, fun h => absurd h (by simp)⟩, by simp, by simp⟩
  · simp at hcs
    obtain ⟨rfl, rfl, rfl⟩ := hcs
    rw [hc] at hcell
    have each : ∀ i, i < len → ∃ s : S74, (∀ j u, ([.string s.f0, .string s.f1, .string s.f2] : List Value)[j]? = some u → w.cell? (ad.add (i * 3 + j)) = some u) := fun i hi => by
      have h1 := hcell i hi
      rw [List.getElem?_eq_getElem (by omega), Option.bind_eq_some_iff] at h1
      obtain ⟨cs, h2, h3⟩ := h1
      obtain ⟨s, rfl⟩ := open_74 h3
      refine ⟨s, fun j u hj => ?_⟩
      have h4 := (World.cells?_some h2).2.2 j (by
        have := (List.getElem?_eq_some_iff.1 hj).1
        simpa using this)
      rw [hj] at h4
      rw [← h4, Addr.add_add]
    clear hcell
    have hs : ∃ l : List S74, l.length = len ∧ ∀ i s, l[i]? = some s → (∀ j u, ([.string s.f0, .string s.f1, .string s.f2] : List Value)[j]? = some u → w.cell? (ad.add (i * 3 + j)) = some u) := by
      refine ⟨(List.range len).map fun i => if hi : i < len then (each i hi).choose else z74, by simp, fun i s hi => ?_⟩
      have hl := (List.getElem?_eq_some_iff.1 hi).1
      simp at hl
      simp [hl] at hi
      subst hi
      exact (each i hl).choose_spec
    obtain ⟨l, rfl, hl⟩ := hs
    have hmax : maxLen ≤ 9223372036854775807 := by decide
    exact ⟨l, rfl, ⟨rfl, by omega, fun _ => ⟨ad, rfl, fun j s hj => ⟨_, rfl, k74_mk w s, hl j s hj⟩⟩⟩, hlc, by omega⟩
theorem array5 {α : Type} {cs : Array α} (h : cs.size = 5) : ∃ c0 c1 c2 c3 c4, cs = #[c0, c1, c2, c3, c4] := by
  obtain ⟨l⟩ := cs
  match l, h with
  | [c0, c1, c2, c3, c4], _ => exact ⟨c0, c1, c2, c3, c4, rfl⟩
set_option maxRecDepth 100000 in
theorem open_ideal {r : Reach} {b0 : Nat} {v : Value} {d : DataW H} {p : List MemPlace} (hv : Value.okWide Try.prog w r b0 50 v) (h : DataW.Trod enc Try.prog w base spare held 50 v d p) :
    ∃ (b : ByteArray) (a : Int) (A0 : Option Addr) (c0 : Nat) (ns : List S72) (A1 : Option Addr) (c1 : Nat) (cs : List S74) (cl : Bool), v = .agg #[.string b, .int .i64 a, .slice A0 ns.length c0, .slice A1 cs.length c1, .bool cl] ∧
      Kd.C k72 w A0 ns.length ns ∧ ns.length ≤ c0 ∧ Kd.C k74 w A1 cs.length cs ∧ cs.length ≤ c1 := by
  obtain ⟨cs, rfl, hsz⟩ := okWide_struct Try.underlying50 hv
  have hc : Try.prog.cellsOf 50 = 5 := by kernel_rfl
  obtain ⟨u0, u1, u2, u3, u4, rfl⟩ := array5 (hsz.trans hc)
  obtain ⟨fuel, hf⟩ := h
  obtain ⟨y0, y1, y2, y3, n, _, _, h0, h1, h2, h3⟩ := Go.Joins.trod_struct4 Try.underlying50 hf
  have hc23 : Try.prog.cellsOf 23 = 2 := by kernel_rfl
  have hc47 : Try.prog.cellsOf 47 = 1 := by kernel_rfl
  have hc48 : Try.prog.cellsOf 48 = 1 := by kernel_rfl
  have hc4 : Try.prog.cellsOf 4 = 1 := by kernel_rfl
  have hc9 : Try.prog.cellsOf 9 = 1 := by kernel_rfl
  have hc3 : Try.prog.cellsOf 3 = 1 := by kernel_rfl
  dsimp only at h0 h1 h2 h3
  rw [hc23] at h0
  rw [hc47] at h1
  rw [hc48] at h2
  rw [hc4] at h3
  simp only [Value.cells] at h0 h1 h2 h3
  replace h0 : DataW.trod enc Try.prog w base spare held n 23 [u0, u1] = some y0 := h0
  replace h1 : DataW.trod enc Try.prog w base spare held n 47 [u2] = some y1 := h1
  replace h2 : DataW.trod enc Try.prog w base spare held n 48 [u3] = some y2 := h2
  replace h3 : DataW.trod enc Try.prog w base spare held n 4 [u4] = some y3 := h3
  obtain ⟨z0, z1, m, _, _, g0, g1⟩ := trod_struct2 Try.underlying23 h0
  dsimp only at g0 g1
  rw [hc9] at g0
  rw [hc3] at g1
  obtain ⟨b, e0, _, _⟩ := DataW.trod_string Try.underlying9 g0
  obtain ⟨a, e1, _, _⟩ := DataW.trod_int Try.underlying3 g1
  simp at e0 e1
  subst e0
  subst e1
  obtain ⟨cl, e4, _⟩ := DataW.trod_bool Try.underlying4 h3
  simp at e4
  subst e4
  obtain ⟨A0, n0, c0, e2⟩ := Go.Joins.slice_form Try.underlying47 h1
  simp at e2
  subst e2
  obtain ⟨A1, n1, c1, e3⟩ := Go.Joins.slice_form Try.underlying48 h2
  simp at e3
  subst e3
  obtain ⟨ns, rfl, k0, l0, _⟩ := open_rows72 h1
  obtain ⟨cs, rfl, k1, l1, _⟩ := open_rows74 h2
  exact ⟨b, a, A0, c0, ns, A1, c1, cs, cl, rfl, k0, l0, k1, l1⟩
theorem array3' {α : Type} {cs : Array α} (h : cs.size = 3) : ∃ c0 c1 c2, cs = #[c0, c1, c2] := by
  obtain ⟨l⟩ := cs
  match l, h with
  | [c0, c1, c2], _ => exact ⟨c0, c1, c2, rfl⟩
set_option maxRecDepth 100000 in
theorem open_three {r : Reach} {b0 : Nat} {v : Value} {d : DataW H} {p : List MemPlace} (hv : Value.okWide Try.prog w r b0 46 v) (h : DataW.Trod enc Try.prog w base spare held 46 v d p) :
    ∃ n0 n1 n2 : Int, v = .agg #[.int .i64 n0, .int .i64 n1, .int .i64 n2] ∧ (Lit.int .i64 n0).wf = true ∧ (Lit.int .i64 n1).wf = true ∧ (Lit.int .i64 n2).wf = true := by
  have hv' := hv
  simp only [Value.okWide, Try.underlying46] at hv'
  obtain ⟨cs, rfl, hsz, _⟩ := hv'
  have hc : Try.prog.cellsOf 46 = 3 := by kernel_rfl
  obtain ⟨u0, u1, u2, rfl⟩ := array3' (hsz.trans hc)
  obtain ⟨fuel, hf⟩ := h
  obtain ⟨s, e, w0, w1, w2⟩ := open_46 hf
  simp [Value.cells] at e
  obtain ⟨rfl, rfl, rfl⟩ := e
  exact ⟨_, _, _, rfl, w0, w1, w2⟩
end
end Go.Proofs.Ytmkncddbecmlpaa.Pr
end
