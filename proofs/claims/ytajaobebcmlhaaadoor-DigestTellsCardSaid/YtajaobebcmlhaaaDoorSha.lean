/-
  SHA-256 in plain words: words of 32 bits, blocks, sums on their way. Plain functions and laws, no condition beyond those each names.
-/
import Derived.Laws.BitsAllLaws
namespace Go.Proofs.Sha
open Go

abbrev U := BitVec 32
/-- A word, as a whole number. -/
def u (x : U) : Int := (x.toNat : Int)
theorem u_nonneg (x : U) : 0 ≤ u x := by unfold u; omega
theorem u_lt (x : U) : u x < 4294967296 := by unfold u; have := x.isLt; omega
theorem u_of (n : Int) (h0 : 0 ≤ n) (h1 : n < 4294967296) : u (BitVec.ofInt 32 n) = n := by
  obtain ⟨k, rfl⟩ := Int.eq_ofNat_of_zero_le h0
  unfold u; rw [ofInt_u32 k (by omega)]
theorem ofInt_u (x : U) : BitVec.ofInt 32 (u x) = x := by
  unfold u; apply BitVec.eq_of_toNat_eq; rw [ofInt_u32 _ x.isLt]
theorem u_inj {x y : U} : u x = u y ↔ x = y := by
  constructor
  · intro h; rw [← ofInt_u x, h, ofInt_u]
  · rintro rfl; rfl
theorem u_xor (x y : U) : bits .xor .u32 (u x) (u y) = u (x ^^^ y) := by
  unfold u; rw [u32_xor_nat _ _ x.isLt y.isLt, BitVec.toNat_xor]
theorem u_and (x y : U) : bits .and .u32 (u x) (u y) = u (x &&& y) := by
  unfold u; rw [u32_and_nat _ _ x.isLt y.isLt, BitVec.toNat_and]
theorem u_or (x y : U) : bits .or .u32 (u x) (u y) = u (x ||| y) := by
  unfold u; rw [u32_or_nat _ _ x.isLt y.isLt, BitVec.toNat_or]
theorem u_add (x y : U) : IntKind.u32.wrap (u x + u y) = u (x + y) := by
  unfold u; rw [IntKind.wrap_u32', BitVec.toNat_add]; omega
theorem u_mul (x y : U) : IntKind.u32.wrap (u x * u y) = u (x * y) := by
  unfold u; rw [IntKind.wrap_u32', BitVec.toNat_mul, ← Int.natCast_mul]; omega
theorem u_not (x : U) : IntKind.u32.wrap (4294967295 - u x) = u (~~~x) := by
  unfold u; rw [IntKind.wrap_u32', BitVec.toNat_not]; have := x.isLt; omega
theorem u_not' (x : U) : 4294967295 - u x = u (~~~x) := by
  unfold u; rw [BitVec.toNat_not]; have := x.isLt; omega
theorem u_shr (x : U) (n : Nat) : u x / 2 ^ n = u (x >>> n) := by
  unfold u; rw [BitVec.toNat_ushiftRight, Nat.shiftRight_eq_div_pow]; simp
theorem u_shl (x : U) (n : Nat) : IntKind.u32.wrap (u x * 2 ^ n) = u (x <<< n) := by
  unfold u; rw [IntKind.wrap_u32', BitVec.toNat_shiftLeft, Nat.shiftLeft_eq]; simp

/-- A word, turned to the right. -/
def rot (n : Nat) (x : U) : U := x >>> n ||| x <<< (32 - n)
/-- Eight words. -/
structure S8 where
  (a b c d e f g h : U)
deriving DecidableEq
theorem ch_eq (e f g : U) : g ^^^ (e &&& (f ^^^ g)) = e &&& f ^^^ ~~~e &&& g := by
  apply BitVec.eq_of_getElem_eq; intro i hi; simp; cases e[i] <;> cases f[i] <;> cases g[i] <;> rfl
theorem maj_eq (a b c : U) : a &&& b ||| c &&& (a ||| b) = a &&& b ^^^ a &&& c ^^^ b &&& c := by
  apply BitVec.eq_of_getElem_eq; intro i hi; simp; cases a[i] <;> cases b[i] <;> cases c[i] <;> rfl
def tOf (k w : U) (v : S8) : U := v.h + (rot 6 v.e ^^^ rot 11 v.e ^^^ rot 25 v.e) + (v.e &&& v.f ^^^ ~~~v.e &&& v.g) + k + w
def qOf (v : S8) : U := (rot 2 v.a ^^^ rot 13 v.a ^^^ rot 22 v.a) + (v.a &&& v.b ^^^ v.a &&& v.c ^^^ v.b &&& v.c)
/-- One round. -/
def rnd (k w : U) (v : S8) : S8 := ⟨tOf k w v + qOf v, v.a, v.b, v.c, v.d + tOf k w v, v.e, v.f, v.g⟩
def add8 (x y : S8) : S8 := ⟨x.a + y.a, x.b + y.b, x.c + y.c, x.d + y.d, x.e + y.e, x.f + y.f, x.g + y.g, x.h + y.h⟩
def zero8 : S8 := ⟨0, 0, 0, 0, 0, 0, 0, 0⟩
def start8 : S8 := ⟨1779033703, 3144134277, 1013904242, 2773480762, 1359893119, 2600822924, 528734635, 1541459225⟩
/-- The words of the rounds. -/
def kl : List Nat := [1116352408, 1899447441, 3049323471, 3921009573, 961987163, 1508970993, 2453635748, 2870763221, 3624381080, 310598401, 607225278, 1426881987, 1925078388, 2162078206, 2614888103, 3248222580, 3835390401, 4022224774, 264347078, 604807628, 770255983, 1249150122, 1555081692, 1996064986, 2554220882, 2821834349, 2952996808, 3210313671, 3336571891, 3584528711, 113926993, 338241895, 666307205, 773529912, 1294757372, 1396182291, 1695183700, 1986661051, 2177026350, 2456956037, 2730485921, 2820302411, 3259730800, 3345764771, 3516065817, 3600352804, 4094571909, 275423344, 430227734, 506948616, 659060556, 883997877, 958139571, 1322822218, 1537002063, 1747873779, 1955562222, 2024104815, 2227730452, 2361852424, 2428436474, 2756734187, 3204031479, 3329325298]
def K (i : Nat) : U := BitVec.ofNat 32 (kl.getD i 0)
/-- Four bytes, as one word. -/
def be (l : List UInt8) : U := l.foldl (fun x b => 256 * x + BitVec.ofNat 32 b.toNat) 0
/-- A block's word. -/
def bw (s : ByteArray) (i : Nat) : U := be (s.extract (4 * i) (4 * i + 4)).data.toList
def s0 (x : U) : U := rot 7 x ^^^ rot 18 x ^^^ x >>> 3
def s1 (y : U) : U := rot 17 y ^^^ rot 19 y ^^^ y >>> 10
/-- The first n words of a block's schedule, the last one first. -/
def ws (s : ByteArray) : Nat → List U
  | 0 => []
  | n + 1 => (if n < 16 then bw s n else (ws s n).getD 15 0 + (ws s n).getD 6 0 + s0 ((ws s n).getD 14 0) + s1 ((ws s n).getD 1 0)) :: ws s n
theorem ws_length (s : ByteArray) : ∀ n, (ws s n).length = n
  | 0 => rfl
  | n + 1 => by simp [ws, ws_length s n]
def wd (s : ByteArray) (i : Nat) : U := (ws s (i + 1)).getD 0 0
theorem ws_getD (s : ByteArray) : ∀ n j, j < n → (ws s n).getD j 0 = wd s (n - 1 - j)
  | n + 1, 0, _ => rfl
  | n + 1, j + 1, h => by
    have := ws_getD s n j (by omega)
    rw [show n + 1 - 1 - (j + 1) = n - 1 - j from by omega, ← this]
    simp [ws]
theorem wd_lo (s : ByteArray) (i : Nat) (h : i < 16) : wd s i = bw s i := by simp [wd, ws, h]
theorem wd_hi (s : ByteArray) (i : Nat) (h : 16 ≤ i) : wd s i = wd s (i - 16) + wd s (i - 7) + s0 (wd s (i - 15)) + s1 (wd s (i - 2)) := by
  have e : wd s i = (ws s i).getD 15 0 + (ws s i).getD 6 0 + s0 ((ws s i).getD 14 0) + s1 ((ws s i).getD 1 0) := by
    simp only [wd, ws]; rw [if_neg (by omega)]; rfl
  rw [e, ws_getD s i 15 (by omega), ws_getD s i 6 (by omega), ws_getD s i 14 (by omega), ws_getD s i 1 (by omega)]
  rw [show i - 1 - 15 = i - 16 from by omega, show i - 1 - 6 = i - 7 from by omega, show i - 1 - 14 = i - 15 from by omega, show i - 1 - 1 = i - 2 from by omega]
/-- The last sixteen words, each at its place, i words having come. -/
def rg (s : ByteArray) (i j : Nat) : U := if j < i then wd s (i - 1 - (i - 1 - j) % 16) else 0
theorem rg_succ (s : ByteArray) (i j : Nat) (hj : j < 16) : rg s (i + 1) j = if j = i % 16 then wd s i else rg s i j := by
  unfold rg
  by_cases h : j = i % 16
  · rw [if_pos h, if_pos (by omega), show i + 1 - 1 - (i + 1 - 1 - j) % 16 = i from by omega]
  · rw [if_neg h]
    by_cases h2 : j < i
    · rw [if_pos h2, if_pos (by omega)]; congr 1; omega
    · rw [if_neg h2, if_neg (by omega)]
theorem rg_at (s : ByteArray) (i c : Nat) (hi : 16 ≤ i) (hc : c < 16) : rg s i ((i + c) % 16) = wd s (i - 16 + c) := by
  unfold rg
  rw [if_pos (by omega)]; congr 1; omega
/-- n rounds. -/
def run (s : ByteArray) (v : S8) : Nat → S8
  | 0 => v
  | n + 1 => rnd (K n) (wd s n) (run s v n)
/-- What a block makes of eight words. -/
def comp (v : S8) (s : ByteArray) : S8 := add8 v (run s v 64)
/-- .. and so many blocks of a text. -/
def many (v : S8) (s : ByteArray) : Nat → S8
  | 0 => v
  | n + 1 => comp (many v s n) (s.extract (64 * n) (64 * n + 64))
def all (v : S8) (s : ByteArray) : S8 := many v s (s.size / 64)
end Go.Proofs.Sha
