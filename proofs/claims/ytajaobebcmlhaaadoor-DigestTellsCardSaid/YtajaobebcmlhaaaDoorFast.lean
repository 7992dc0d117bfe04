/-
  SHA-256's sums of texts that are known, reckoned with whole numbers in which eight, or sixteen, words lie side by side. No condition beyond those each law names.
-/
import Derived.Test.YtajaobebcmlhaaaDoorSha
set_option linter.unusedSimpArgs false
namespace Go.Proofs.Sha
namespace Fast
def w_ (v j : Nat) : Nat := Nat.mod (Nat.shiftRight v (Nat.mul 32 j)) 4294967296
def ro (n x : Nat) : Nat := Nat.lor (Nat.shiftRight x n) (Nat.mod (Nat.shiftLeft x (Nat.sub 32 n)) 4294967296)
def S1 (e : Nat) : Nat := Nat.xor (Nat.xor (ro 6 e) (ro 11 e)) (ro 25 e)
def S0 (e : Nat) : Nat := Nat.xor (Nat.xor (ro 2 e) (ro 13 e)) (ro 22 e)
def chN (e f g : Nat) : Nat := Nat.xor g (Nat.land e (Nat.xor f g))
def majN (a b c : Nat) : Nat := Nat.lor (Nat.land a b) (Nat.land c (Nat.lor a b))
def tN (k w v : Nat) : Nat := Nat.add (Nat.add (Nat.add (Nat.add (w_ v 7) (S1 (w_ v 4))) (chN (w_ v 4) (w_ v 5) (w_ v 6))) k) w
def qN (v : Nat) : Nat := Nat.add (S0 (w_ v 0)) (majN (w_ v 0) (w_ v 1) (w_ v 2))
def rN (k w v : Nat) : Nat :=
  Nat.add (Nat.add (Nat.mod (Nat.add (tN k w v) (qN v)) 4294967296) (Nat.shiftLeft (Nat.mod v (Nat.pow 2 96)) 32))
   (Nat.add (Nat.shiftLeft (Nat.mod (Nat.add (w_ v 3) (tN k w v)) 4294967296) 128) (Nat.shiftLeft (Nat.mod (Nat.shiftRight v 128) (Nat.pow 2 96)) 160))
def s0N (x : Nat) : Nat := Nat.xor (Nat.xor (ro 7 x) (ro 18 x)) (Nat.shiftRight x 3)
def s1N (x : Nat) : Nat := Nat.xor (Nat.xor (ro 17 x) (ro 19 x)) (Nat.shiftRight x 10)
def nxt (r : Nat) : Nat := Nat.add (Nat.mod (Nat.add (Nat.add (Nat.add (w_ r 15) (w_ r 6)) (s0N (w_ r 14))) (s1N (w_ r 1))) 4294967296) (Nat.shiftLeft (Nat.mod r (Nat.pow 2 480)) 32)
def go : List Nat → Nat → Nat → Nat
  | [], _, v => v
  | k :: l, r, v => go l (nxt r) (rN k (w_ r 15) v)
def pack (a b c d e f g h : Nat) : Nat := a + b * 4294967296 + c * 18446744073709551616 + d * 79228162514264337593543950336 + e * 340282366920938463463374607431768211456 + f * 1461501637330902918203684832716283019655932542976 + g * 6277101735386680763835789423207666416102355444464034512896 + h * 26959946667150639794667015087019630673637144422540572481103610249216
def addN (x y : Nat) : Nat := pack (Nat.mod (Nat.add (w_ x 0) (w_ y 0)) 4294967296) (Nat.mod (Nat.add (w_ x 1) (w_ y 1)) 4294967296) (Nat.mod (Nat.add (w_ x 2) (w_ y 2)) 4294967296) (Nat.mod (Nat.add (w_ x 3) (w_ y 3)) 4294967296)
  (Nat.mod (Nat.add (w_ x 4) (w_ y 4)) 4294967296) (Nat.mod (Nat.add (w_ x 5) (w_ y 5)) 4294967296) (Nat.mod (Nat.add (w_ x 6) (w_ y 6)) 4294967296) (Nat.mod (Nat.add (w_ x 7) (w_ y 7)) 4294967296)
def pk (v : S8) : Nat := pack v.a.toNat v.b.toNat v.c.toNat v.d.toNat v.e.toNat v.f.toNat v.g.toNat v.h.toNat

theorem w_div (v j : Nat) : w_ v j = v / 2 ^ (32 * j) % 4294967296 := by
  show (v >>> (32 * j)) % 4294967296 = _
  rw [Nat.shiftRight_eq_div_pow]
theorem w_pack (a b c d e f g h : Nat) (ha : a < 4294967296) (hb : b < 4294967296) (hc : c < 4294967296) (hd : d < 4294967296) (he : e < 4294967296) (hf : f < 4294967296) (hg : g < 4294967296) (hh : h < 4294967296) :
    w_ (pack a b c d e f g h) 0 = a ∧ w_ (pack a b c d e f g h) 1 = b ∧ w_ (pack a b c d e f g h) 2 = c ∧ w_ (pack a b c d e f g h) 3 = d ∧
    w_ (pack a b c d e f g h) 4 = e ∧ w_ (pack a b c d e f g h) 5 = f ∧ w_ (pack a b c d e f g h) 6 = g ∧ w_ (pack a b c d e f g h) 7 = h := by
  simp only [w_div, pack, Nat.reduceMul, Nat.reducePow]
  refine ⟨?_, ?_, ?_, ?_, ?_, ?_, ?_, ?_⟩ <;> omega
theorem w_pk (v : S8) : w_ (pk v) 0 = v.a.toNat ∧ w_ (pk v) 1 = v.b.toNat ∧ w_ (pk v) 2 = v.c.toNat ∧ w_ (pk v) 3 = v.d.toNat ∧
    w_ (pk v) 4 = v.e.toNat ∧ w_ (pk v) 5 = v.f.toNat ∧ w_ (pk v) 6 = v.g.toNat ∧ w_ (pk v) 7 = v.h.toNat :=
  w_pack _ _ _ _ _ _ _ _ v.a.isLt v.b.isLt v.c.isLt v.d.isLt v.e.isLt v.f.isLt v.g.isLt v.h.isLt
theorem pk_inj {v v' : S8} (h : pk v = pk v') : v = v' := by
  obtain ⟨a0, b0, c0, d0, e0, f0, g0, h0⟩ := w_pk v
  obtain ⟨a1, b1, c1, d1, e1, f1, g1, h1⟩ := w_pk v'
  rw [h] at a0 b0 c0 d0 e0 f0 g0 h0
  cases v; cases v'
  congr 1 <;> apply BitVec.eq_of_toNat_eq
  · exact a0.symm.trans a1
  · exact b0.symm.trans b1
  · exact c0.symm.trans c1
  · exact d0.symm.trans d1
  · exact e0.symm.trans e1
  · exact f0.symm.trans f1
  · exact g0.symm.trans g1
  · exact h0.symm.trans h1
theorem ro_eq (n : Nat) (x : U) : (rot n x).toNat = ro n x.toNat := by
  unfold rot ro
  rw [BitVec.toNat_or, BitVec.toNat_ushiftRight, BitVec.toNat_shiftLeft]
  rfl
theorem t_eq (k w : Nat) (v : S8) : (tOf (BitVec.ofNat 32 k) (BitVec.ofNat 32 w) v).toNat = tN k w (pk v) % 4294967296 := by
  obtain ⟨a0, b0, c0, d0, e0, f0, g0, h0⟩ := w_pk v
  have e1 : (rot 6 v.e ^^^ rot 11 v.e ^^^ rot 25 v.e).toNat = S1 v.e.toNat := by
    rw [BitVec.toNat_xor, BitVec.toNat_xor, ro_eq, ro_eq, ro_eq]; rfl
  have e2 : (v.e &&& v.f ^^^ ~~~v.e &&& v.g).toNat = chN v.e.toNat v.f.toNat v.g.toNat := by
    rw [← ch_eq, BitVec.toNat_xor, BitVec.toNat_and, BitVec.toNat_xor]; rfl
  unfold tN tOf
  rw [e0, f0, g0, h0]
  rw [BitVec.toNat_add, BitVec.toNat_add, BitVec.toNat_add, BitVec.toNat_add, e1, e2, BitVec.toNat_ofNat, BitVec.toNat_ofNat]
  show ((((v.h.toNat + S1 v.e.toNat) % 2 ^ 32 + _) % 2 ^ 32 + k % 2 ^ 32) % 2 ^ 32 + w % 2 ^ 32) % 2 ^ 32 = ((((v.h.toNat + S1 v.e.toNat) + _) + k) + w) % 4294967296
  omega
theorem q_eq (v : S8) : (qOf v).toNat = qN (pk v) % 4294967296 := by
  obtain ⟨a0, b0, c0, d0, e0, f0, g0, h0⟩ := w_pk v
  have e1 : (rot 2 v.a ^^^ rot 13 v.a ^^^ rot 22 v.a).toNat = S0 v.a.toNat := by
    rw [BitVec.toNat_xor, BitVec.toNat_xor, ro_eq, ro_eq, ro_eq]; rfl
  have e2 : (v.a &&& v.b ^^^ v.a &&& v.c ^^^ v.b &&& v.c).toNat = majN v.a.toNat v.b.toNat v.c.toNat := by
    rw [← maj_eq, BitVec.toNat_or, BitVec.toNat_and, BitVec.toNat_and, BitVec.toNat_or]; rfl
  unfold qN qOf
  rw [a0, b0, c0, BitVec.toNat_add, e1, e2]
  rfl
theorem r_eq (k w : Nat) (v : S8) : pk (rnd (BitVec.ofNat 32 k) (BitVec.ofNat 32 w) v) = rN k w (pk v) := by
  obtain ⟨a0, b0, c0, d0, e0, f0, g0, h0⟩ := w_pk v
  have et := t_eq k w v
  have eq := q_eq v
  unfold rnd rN pk
  have hx : pack v.a.toNat v.b.toNat v.c.toNat v.d.toNat v.e.toNat v.f.toNat v.g.toNat v.h.toNat = pk v := rfl
  rw [hx, d0]
  dsimp only
  rw [BitVec.toNat_add, BitVec.toNat_add, et, eq]
  generalize tN k w (pk v) = t
  generalize qN (pk v) = q
  rw [← hx]
  show _ = ((t + q) % 4294967296 + (pack v.a.toNat v.b.toNat v.c.toNat v.d.toNat v.e.toNat v.f.toNat v.g.toNat v.h.toNat % 2 ^ 96) <<< 32) +
    (((v.d.toNat + t) % 4294967296) <<< 128 + (((pack v.a.toNat v.b.toNat v.c.toNat v.d.toNat v.e.toNat v.f.toNat v.g.toNat v.h.toNat) >>> 128) % 2 ^ 96) <<< 160)
  have ha := v.a.isLt; have hb := v.b.isLt; have hc := v.c.isLt; have hd := v.d.isLt; have he := v.e.isLt; have hf := v.f.isLt; have hg := v.g.isLt; have hh := v.h.isLt
  simp only [Nat.shiftLeft_eq, Nat.shiftRight_eq_div_pow, pack, Nat.reducePow] at *
  generalize v.a.toNat = a at *; generalize v.b.toNat = b at *; generalize v.c.toNat = c at *; generalize v.d.toNat = d at *; generalize v.e.toNat = e at *; generalize v.f.toNat = f at *; generalize v.g.toNat = g at *; generalize v.h.toNat = h at *
  clear a0 b0 c0 d0 e0 f0 g0 h0 et eq hx
  have x1 : (a + b * 4294967296 + c * 18446744073709551616 + d * 79228162514264337593543950336 + e * 340282366920938463463374607431768211456 + f * 1461501637330902918203684832716283019655932542976 + g * 6277101735386680763835789423207666416102355444464034512896 + h * 26959946667150639794667015087019630673637144422540572481103610249216) % 79228162514264337593543950336 = a + b * 4294967296 + c * 18446744073709551616 := by omega
  have x2 : (a + b * 4294967296 + c * 18446744073709551616 + d * 79228162514264337593543950336 + e * 340282366920938463463374607431768211456 + f * 1461501637330902918203684832716283019655932542976 + g * 6277101735386680763835789423207666416102355444464034512896 + h * 26959946667150639794667015087019630673637144422540572481103610249216) / 340282366920938463463374607431768211456 % 79228162514264337593543950336 = e + f * 4294967296 + g * 18446744073709551616 := by omega
  rw [x1, x2]
  omega
def pack16 (x0 x1 x2 x3 x4 x5 x6 x7 x8 x9 x10 x11 x12 x13 x14 x15 : Nat) : Nat := x0 + x1 * 4294967296 + x2 * 18446744073709551616 + x3 * 79228162514264337593543950336 + x4 * 340282366920938463463374607431768211456 + x5 * 1461501637330902918203684832716283019655932542976 + x6 * 6277101735386680763835789423207666416102355444464034512896 + x7 * 26959946667150639794667015087019630673637144422540572481103610249216 + x8 * 115792089237316195423570985008687907853269984665640564039457584007913129639936 + x9 * 497323236409786642155382248146820840100456150797347717440463976893159497012533375533056 + x10 * 2135987035920910082395021706169552114602704522356652769947041607822219725780640550022962086936576 + x11 * 9173994463960286046443283581208347763186259956673124494950355357547691504353939232280074212440502746218496 + x12 * 39402006196394479212279040100143613805079739270465446667948293404245721771497210611414266254884915640806627990306816 + x13 * 169230328010303641331690318856389386196071598838855992136870091590247882556495704531248437872567112920983350278405979725889536 + x14 * 726838724295606890549323807888004534353641360687318060281490199180639288113397923326191050713763565560762521606266177933534601628614656 + x15 * 3121748550315992231381597229793166305748598142664971150859156959625371738819765620120306103063491971159826931121406622895447975679288285306290176
def pr (l : List U) : Nat := pack16 (l.getD 0 0).toNat (l.getD 1 0).toNat (l.getD 2 0).toNat (l.getD 3 0).toNat (l.getD 4 0).toNat (l.getD 5 0).toNat (l.getD 6 0).toNat (l.getD 7 0).toNat (l.getD 8 0).toNat (l.getD 9 0).toNat (l.getD 10 0).toNat (l.getD 11 0).toNat (l.getD 12 0).toNat (l.getD 13 0).toNat (l.getD 14 0).toNat (l.getD 15 0).toNat
set_option exponentiation.threshold 600 in
theorem w_pr (l : List U) : w_ (pr l) 15 = (l.getD 15 0).toNat ∧ w_ (pr l) 6 = (l.getD 6 0).toNat ∧ w_ (pr l) 14 = (l.getD 14 0).toNat ∧ w_ (pr l) 1 = (l.getD 1 0).toNat := by
  have h0 := (l.getD 0 0).isLt
  have h1 := (l.getD 1 0).isLt
  have h2 := (l.getD 2 0).isLt
  have h3 := (l.getD 3 0).isLt
  have h4 := (l.getD 4 0).isLt
  have h5 := (l.getD 5 0).isLt
  have h6 := (l.getD 6 0).isLt
  have h7 := (l.getD 7 0).isLt
  have h8 := (l.getD 8 0).isLt
  have h9 := (l.getD 9 0).isLt
  have h10 := (l.getD 10 0).isLt
  have h11 := (l.getD 11 0).isLt
  have h12 := (l.getD 12 0).isLt
  have h13 := (l.getD 13 0).isLt
  have h14 := (l.getD 14 0).isLt
  have h15 := (l.getD 15 0).isLt
  simp only [w_div, pr, pack16, Nat.reduceMul, Nat.reducePow] at *
  generalize (l.getD 0 0).toNat = y0 at *
  generalize (l.getD 1 0).toNat = y1 at *
  generalize (l.getD 2 0).toNat = y2 at *
  generalize (l.getD 3 0).toNat = y3 at *
  generalize (l.getD 4 0).toNat = y4 at *
  generalize (l.getD 5 0).toNat = y5 at *
  generalize (l.getD 6 0).toNat = y6 at *
  generalize (l.getD 7 0).toNat = y7 at *
  generalize (l.getD 8 0).toNat = y8 at *
  generalize (l.getD 9 0).toNat = y9 at *
  generalize (l.getD 10 0).toNat = y10 at *
  generalize (l.getD 11 0).toNat = y11 at *
  generalize (l.getD 12 0).toNat = y12 at *
  generalize (l.getD 13 0).toNat = y13 at *
  generalize (l.getD 14 0).toNat = y14 at *
  generalize (l.getD 15 0).toNat = y15 at *
  refine ⟨?_, ?_, ?_, ?_⟩ <;> omega
set_option exponentiation.threshold 600 in
theorem nxt_eq (l : List U) (x : U) (hx : x = l.getD 15 0 + l.getD 6 0 + s0 (l.getD 14 0) + s1 (l.getD 1 0)) : pr (x :: l) = nxt (pr l) := by
  obtain ⟨w15, w6, w14, w1⟩ := w_pr l
  have e0 : (s0 (l.getD 14 0)).toNat = s0N (l.getD 14 0).toNat := by
    unfold s0 s0N; rw [BitVec.toNat_xor, BitVec.toNat_xor, ro_eq, ro_eq, BitVec.toNat_ushiftRight]; rfl
  have e1 : (s1 (l.getD 1 0)).toNat = s1N (l.getD 1 0).toNat := by
    unfold s1 s1N; rw [BitVec.toNat_xor, BitVec.toNat_xor, ro_eq, ro_eq, BitVec.toNat_ushiftRight]; rfl
  have e : x.toNat = ((l.getD 15 0).toNat + (l.getD 6 0).toNat + s0N (l.getD 14 0).toNat + s1N (l.getD 1 0).toNat) % 4294967296 := by
    rw [hx, BitVec.toNat_add, BitVec.toNat_add, BitVec.toNat_add, e0, e1]; omega
  unfold nxt
  rw [w15, w6, w14, w1]
  show _ = ((l.getD 15 0).toNat + (l.getD 6 0).toNat + s0N (l.getD 14 0).toNat + s1N (l.getD 1 0).toNat) % 4294967296 + (pr l % 2 ^ 480) <<< 32
  rw [← e]
  simp only [pr, List.getD_cons_zero, List.getD_cons_succ]
  have h0 := (l.getD 0 0).isLt
  have h1 := (l.getD 1 0).isLt
  have h2 := (l.getD 2 0).isLt
  have h3 := (l.getD 3 0).isLt
  have h4 := (l.getD 4 0).isLt
  have h5 := (l.getD 5 0).isLt
  have h6 := (l.getD 6 0).isLt
  have h7 := (l.getD 7 0).isLt
  have h8 := (l.getD 8 0).isLt
  have h9 := (l.getD 9 0).isLt
  have h10 := (l.getD 10 0).isLt
  have h11 := (l.getD 11 0).isLt
  have h12 := (l.getD 12 0).isLt
  have h13 := (l.getD 13 0).isLt
  have h14 := (l.getD 14 0).isLt
  have h15 := (l.getD 15 0).isLt
  clear e e0 e1 w15 w6 w14 w1 hx
  generalize (l.getD 0 0).toNat = y0 at *
  generalize (l.getD 1 0).toNat = y1 at *
  generalize (l.getD 2 0).toNat = y2 at *
  generalize (l.getD 3 0).toNat = y3 at *
  generalize (l.getD 4 0).toNat = y4 at *
  generalize (l.getD 5 0).toNat = y5 at *
  generalize (l.getD 6 0).toNat = y6 at *
  generalize (l.getD 7 0).toNat = y7 at *
  generalize (l.getD 8 0).toNat = y8 at *
  generalize (l.getD 9 0).toNat = y9 at *
  generalize (l.getD 10 0).toNat = y10 at *
  generalize (l.getD 11 0).toNat = y11 at *
  generalize (l.getD 12 0).toNat = y12 at *
  generalize (l.getD 13 0).toNat = y13 at *
  generalize (l.getD 14 0).toNat = y14 at *
  generalize (l.getD 15 0).toNat = y15 at *
  generalize x.toNat = x at *
  simp only [Nat.shiftLeft_eq, pack16, Nat.reducePow] at *
  have q : (y0 + y1 * 4294967296 + y2 * 18446744073709551616 + y3 * 79228162514264337593543950336 + y4 * 340282366920938463463374607431768211456 + y5 * 1461501637330902918203684832716283019655932542976 + y6 * 6277101735386680763835789423207666416102355444464034512896 + y7 * 26959946667150639794667015087019630673637144422540572481103610249216 + y8 * 115792089237316195423570985008687907853269984665640564039457584007913129639936 + y9 * 497323236409786642155382248146820840100456150797347717440463976893159497012533375533056 + y10 * 2135987035920910082395021706169552114602704522356652769947041607822219725780640550022962086936576 + y11 * 9173994463960286046443283581208347763186259956673124494950355357547691504353939232280074212440502746218496 + y12 * 39402006196394479212279040100143613805079739270465446667948293404245721771497210611414266254884915640806627990306816 + y13 * 169230328010303641331690318856389386196071598838855992136870091590247882556495704531248437872567112920983350278405979725889536 + y14 * 726838724295606890549323807888004534353641360687318060281490199180639288113397923326191050713763565560762521606266177933534601628614656 + y15 * 3121748550315992231381597229793166305748598142664971150859156959625371738819765620120306103063491971159826931121406622895447975679288285306290176) % 3121748550315992231381597229793166305748598142664971150859156959625371738819765620120306103063491971159826931121406622895447975679288285306290176 = y0 + y1 * 4294967296 + y2 * 18446744073709551616 + y3 * 79228162514264337593543950336 + y4 * 340282366920938463463374607431768211456 + y5 * 1461501637330902918203684832716283019655932542976 + y6 * 6277101735386680763835789423207666416102355444464034512896 + y7 * 26959946667150639794667015087019630673637144422540572481103610249216 + y8 * 115792089237316195423570985008687907853269984665640564039457584007913129639936 + y9 * 497323236409786642155382248146820840100456150797347717440463976893159497012533375533056 + y10 * 2135987035920910082395021706169552114602704522356652769947041607822219725780640550022962086936576 + y11 * 9173994463960286046443283581208347763186259956673124494950355357547691504353939232280074212440502746218496 + y12 * 39402006196394479212279040100143613805079739270465446667948293404245721771497210611414266254884915640806627990306816 + y13 * 169230328010303641331690318856389386196071598838855992136870091590247882556495704531248437872567112920983350278405979725889536 + y14 * 726838724295606890549323807888004534353641360687318060281490199180639288113397923326191050713763565560762521606266177933534601628614656 := by omega
  rw [q]
  omega
theorem kl_get (n : Nat) (h : n < 64) : kl.drop n = kl.getD n 0 :: kl.drop (n + 1) := by
  have hl : kl.length = 64 := rfl
  rw [List.drop_eq_getElem_cons (by omega)]
  simp only [List.getD_eq_getElem?_getD, List.getElem?_eq_getElem (show n < kl.length by omega), Option.getD_some]
theorem go_cons (k : Nat) (l : List Nat) (r v : Nat) : go (k :: l) r v = go l (nxt r) (rN k (w_ r 15) v) := rfl
theorem run_next (s : ByteArray) (v : S8) (m : Nat) : run s v (m + 1) = rnd (K m) (wd s m) (run s v m) := rfl
theorem ws_step (s : ByteArray) (n : Nat) : ws s (n + 1) = (if n < 16 then bw s n else (ws s n).getD 15 0 + (ws s n).getD 6 0 + s0 ((ws s n).getD 14 0) + s1 ((ws s n).getD 1 0)) :: ws s n := by
  rw [ws]
theorem ws_next (s : ByteArray) (m : Nat) : ws s (m + 1 + 16) = ((ws s (m + 16)).getD 15 0 + (ws s (m + 16)).getD 6 0 + s0 ((ws s (m + 16)).getD 14 0) + s1 ((ws s (m + 16)).getD 1 0)) :: ws s (m + 16) := by
  rw [show m + 1 + 16 = (m + 16) + 1 from by omega]
  rw [ws_step, if_neg (by omega)]
theorem nxt_next (s : ByteArray) (m : Nat) : nxt (pr (ws s (m + 16))) = pr (ws s (m + 1 + 16)) := by
  rw [ws_next]; exact (nxt_eq _ _ rfl).symm
theorem r_next (s : ByteArray) (v : S8) (m : Nat) (h : (w_ (pr (ws s (m + 16))) 15) = (wd s m).toNat) : rN (kl.getD m 0) (w_ (pr (ws s (m + 16))) 15) (pk (run s v m)) = pk (run s v (m + 1)) := by
  rw [h, ← r_eq, BitVec.ofNat_toNat, BitVec.setWidth_eq, run_next]
  unfold K
  with_reducible rfl
theorem w15 (s : ByteArray) (m : Nat) : (w_ (pr (ws s (m + 16))) 15) = (wd s m).toNat := by
  rw [(w_pr _).1, ws_getD s _ 15 (by omega), show m + 16 - 1 - 15 = m from by omega]
theorem kl_all : kl.drop 64 = [] := rfl
attribute [local irreducible] kl ws run rN nxt pr pk w_
theorem go_eq (s : ByteArray) (v : S8) : ∀ n m, n + m = 64 → go (kl.drop m) (pr (ws s (m + 16))) (pk (run s v m)) = pk (run s v 64) := by
  intro n
  induction n with
  | zero =>
    intro m h
    have : m = 64 := by omega
    subst this
    rw [kl_all]
    generalize run s v 64 = r
    generalize pr _ = q
    rfl
  | succ n ih =>
    intro m h
    rw [kl_get m (by omega), go_cons, r_next s v m (w15 s m), nxt_next]
    exact ih (m + 1) (by omega)
attribute [local semireducible] kl ws run rN nxt pr pk w_
theorem add_eq (x y : S8) : pk (add8 x y) = addN (pk x) (pk y) := by
  obtain ⟨a0, b0, c0, d0, e0, f0, g0, h0⟩ := w_pk x
  obtain ⟨a1, b1, c1, d1, e1, f1, g1, h1⟩ := w_pk y
  unfold addN pk add8
  show _ = pack (Nat.mod (Nat.add (w_ (pk x) 0) (w_ (pk y) 0)) 4294967296) (Nat.mod (Nat.add (w_ (pk x) 1) (w_ (pk y) 1)) 4294967296) (Nat.mod (Nat.add (w_ (pk x) 2) (w_ (pk y) 2)) 4294967296) (Nat.mod (Nat.add (w_ (pk x) 3) (w_ (pk y) 3)) 4294967296)
    (Nat.mod (Nat.add (w_ (pk x) 4) (w_ (pk y) 4)) 4294967296) (Nat.mod (Nat.add (w_ (pk x) 5) (w_ (pk y) 5)) 4294967296) (Nat.mod (Nat.add (w_ (pk x) 6) (w_ (pk y) 6)) 4294967296) (Nat.mod (Nat.add (w_ (pk x) 7) (w_ (pk y) 7)) 4294967296)
  rw [a0, b0, c0, d0, e0, f0, g0, h0, a1, b1, c1, d1, e1, f1, g1, h1]
  rfl
def blk (s : ByteArray) : Nat := pr (ws s 16)
theorem comp_eq (v : S8) (s : ByteArray) : pk (comp v s) = addN (pk v) (go kl (blk s) (pk v)) := by
  unfold comp; rw [add_eq]
  have h := go_eq s v 64 0 rfl
  rw [← h]
  unfold blk
  rw [show run s v 0 = v from rfl, List.drop_zero]
/-- So many blocks, reckoned. -/
def fm (s : ByteArray) (v : Nat) : Nat → Nat
  | 0 => v
  | n + 1 => addN (fm s v n) (go kl (blk (s.extract (64 * n) (64 * n + 64))) (fm s v n))
theorem many_next (v : S8) (s : ByteArray) (n : Nat) : many v s (n + 1) = comp (many v s n) (s.extract (64 * n) (64 * n + 64)) := rfl
theorem many_eq (v : S8) (s : ByteArray) : ∀ n, pk (many v s n) = fm s (pk v) n
  | 0 => rfl
  | n + 1 => by
    rw [many_next, comp_eq, many_eq v s n]; rfl
def abc_ : ByteArray := ⟨((([0x61,0x62,0x63,0x80] : List UInt8) ++ List.replicate 52 0 ++ [0,0,0,0,0,0,0,24])).toArray⟩
set_option maxRecDepth 10000 in
theorem test : w_ (fm abc_ (pk start8) 1) 0 = 0xba7816bf := by decide +kernel
end Fast
end Go.Proofs.Sha
