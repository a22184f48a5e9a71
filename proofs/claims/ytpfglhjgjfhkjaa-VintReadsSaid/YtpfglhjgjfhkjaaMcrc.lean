/- The plain arithmetic of the sum: steps, catB, texts; that it is linear, and that no step loses anything. No program in sight. -/
import Derived.Laws.BitsAllLaws
namespace Go.Proofs.Ytpfglhjgjfhkjaa.Mcrc
set_option linter.unusedVariables false

/-- one of eight steps, as the walk spells it -/
def st (x : Int) : Int := if x % 2 = 1 then Go.bits .xor .u32 (x / 2) 2197175160 else x / 2
theorem and1 (y : Int) (h0 : 0 ≤ y) (h1 : y < 4294967296) : Go.bits .and .u32 y 1 = y % 2 := by
  rw [u32_and _ _ h0 h1 (by omega) (by omega)]
  rw [show (1 : Int).toNat = 1 from rfl, Nat.and_one_is_mod]
  omega
theorem st_range (x : Int) (h0 : 0 ≤ x) (h1 : x < 4294967296) : 0 ≤ st x ∧ st x < 4294967296 := by
  unfold st
  split
  · rw [u32_xor _ _ (by omega) (by omega) (by omega) (by omega)]
    have : (x / 2).toNat ^^^ (2197175160 : Int).toNat < 2 ^ 32 := Nat.xor_lt_two_pow (by omega) (by decide)
    omega
  · omega
def st8 : Nat → Int → Int
  | 0, x => x
  | n + 1, x => st (st8 n x)
/-- a byte fed -/
def by_ (x b : Int) : Int := Go.bits .xor .u32 (x / 256) (st8 8 (Go.bits .xor .u8 (x % 256) b))
def feed (x : Int) (l : List UInt8) : Int := l.foldl (fun x c => by_ x c.toNat) x
def feeds (x : Int) (l : List ByteArray) : Int := l.foldl (fun x s => feed x s.data.toList) x

def sum (l : List ByteArray) : Int := Go.bits .xor .u32 4294967295 (feeds 4294967295 l)
theorem st8_range (x : Int) (h0 : 0 ≤ x) (h1 : x < 4294967296) : ∀ n, 0 ≤ st8 n x ∧ st8 n x < 4294967296
  | 0 => ⟨h0, h1⟩
  | n + 1 => st_range _ (st8_range x h0 h1 n).1 (st8_range x h0 h1 n).2
theorem xor8_range (z b : Int) (h0 : 0 ≤ b) (h1 : b < 256) : 0 ≤ Go.bits .xor .u8 (z % 256) b ∧ Go.bits .xor .u8 (z % 256) b < 256 := by
  rw [u8_xor _ _ (by omega) (by omega) (by omega) (by omega)]
  have : (z % 256).toNat ^^^ b.toNat < 2 ^ 8 := Nat.xor_lt_two_pow (by omega) (by omega)
  omega
theorem by_range (z b : Int) (hz0 : 0 ≤ z) (hz1 : z < 4294967296) (h0 : 0 ≤ b) (h1 : b < 256) : 0 ≤ by_ z b ∧ by_ z b < 4294967296 := by
  have hq := xor8_range z b h0 h1
  have hs := st8_range _ hq.1 (by omega) 8
  unfold by_
  rw [u32_xor _ _ (by omega) (by omega) hs.1 hs.2]
  have : (z / 256).toNat ^^^ (st8 8 (Go.bits .xor .u8 (z % 256) b)).toNat < 2 ^ 32 := Nat.xor_lt_two_pow (by omega) (by omega)
  omega

/-! ### The same on Nat -/
def stN (x : Nat) : Nat := if x % 2 = 1 then (x / 2) ^^^ 2197175160 else x / 2
def stNs : Nat → Nat → Nat
  | 0, x => x
  | n + 1, x => stN (stNs n x)
def byN (x b : Nat) : Nat := stNs 8 (x ^^^ b)
def feedN (x : Nat) (l : List UInt8) : Nat := l.foldl (fun x c => byN x c.toNat) x
def crcN (l : List UInt8) : Nat := feedN 4294967295 l ^^^ 4294967295

theorem stN_lt {x : Nat} (h : x < 2 ^ 32) : stN x < 2 ^ 32 := by
  unfold stN
  split
  · exact Nat.xor_lt_two_pow (by omega) (by decide)
  · omega
theorem stNs_lt {x : Nat} (h : x < 2 ^ 32) : ∀ n, stNs n x < 2 ^ 32
  | 0 => h
  | n + 1 => stN_lt (stNs_lt h n)
theorem byN_lt {x b : Nat} (h : x < 2 ^ 32) (hb : b < 256) : byN x b < 2 ^ 32 := stNs_lt (Nat.xor_lt_two_pow h (by omega)) 8
theorem feedN_lt {x : Nat} (h : x < 2 ^ 32) (l : List UInt8) : feedN x l < 2 ^ 32 := by
  induction l generalizing x with
  | nil => exact h
  | cons c l ih => exact ih (byN_lt h c.toNat_lt)
theorem crcN_lt (l : List UInt8) : crcN l < 2 ^ 32 := Nat.xor_lt_two_pow (feedN_lt (by decide) l) (by decide)
theorem feedN_append (x : Nat) (a b : List UInt8) : feedN x (a ++ b) = feedN (feedN x a) b := by simp [feedN, List.foldl_append]

theorem xor_div2 (a b : Nat) : (a ^^^ b) / 2 = a / 2 ^^^ b / 2 := by
  have := Nat.shiftRight_xor_distrib (a := a) (b := b) (i := 1)
  simpa [Nat.shiftRight_eq_div_pow] using this
theorem xor_mod2 (a b : Nat) : (a ^^^ b) % 2 = (a % 2 + b % 2) % 2 := by
  have h := Nat.xor_mod_two_pow (a := a) (b := b) (n := 1)
  rw [Nat.pow_one] at h
  rw [h]
  rcases Nat.mod_two_eq_zero_or_one a with ha | ha <;> rcases Nat.mod_two_eq_zero_or_one b with hb | hb <;> rw [ha, hb] <;> rfl
theorem stN_xor (a b : Nat) : stN (a ^^^ b) = stN a ^^^ stN b := by
  have hm := xor_mod2 a b
  unfold stN
  rw [xor_div2]
  rcases Nat.mod_two_eq_zero_or_one a with ha | ha <;> rcases Nat.mod_two_eq_zero_or_one b with hb | hb
  · rw [if_neg (by omega), if_neg (by omega), if_neg (by omega)]
  · rw [if_pos (by omega), if_neg (by omega), if_pos (by omega), Nat.xor_assoc]
  · rw [if_pos (by omega), if_pos (by omega), if_neg (by omega), Nat.xor_assoc, Nat.xor_assoc, Nat.xor_comm 2197175160]
  · rw [if_neg (by omega), if_pos (by omega), if_pos (by omega)]
    rw [Nat.xor_assoc, ← Nat.xor_assoc 2197175160, Nat.xor_comm 2197175160, Nat.xor_assoc (b / 2), Nat.xor_self, Nat.xor_zero]
theorem stNs_xor (a b : Nat) : ∀ n, stNs n (a ^^^ b) = stNs n a ^^^ stNs n b
  | 0 => rfl
  | n + 1 => by rw [stNs, stNs_xor a b n, stN_xor]; rfl
theorem stNs_succ (n x : Nat) : stNs (n + 1) x = stNs n (stN x) := by
  induction n with
  | zero => rfl
  | succ n ih => rw [stNs, ih]; rfl
theorem stNs_add (m n x : Nat) : stNs (m + n) x = stNs m (stNs n x) := by
  induction m with
  | zero => simp [stNs]
  | succ m ih => rw [show m + 1 + n = (m + n) + 1 from by omega, stNs, ih]; rfl
theorem stNs_shift (y : Nat) : ∀ n, stNs n (y * 2 ^ n) = y
  | 0 => by simp [stNs]
  | n + 1 => by
    rw [stNs_succ, show stN (y * 2 ^ (n + 1)) = y * 2 ^ n from ?_, stNs_shift y n]
    unfold stN
    rw [Nat.pow_succ, ← Nat.mul_assoc, if_neg (by omega)]
    omega
theorem byN_xor (x y a b : Nat) : byN (x ^^^ y) (a ^^^ b) = byN x a ^^^ byN y b := by
  unfold byN
  rw [← stNs_xor]
  congr 1
  rw [Nat.xor_assoc, Nat.xor_assoc, ← Nat.xor_assoc y, Nat.xor_comm y, Nat.xor_assoc a]
theorem hi_lo (x : Nat) : x = x / 256 * 256 ^^^ x % 256 := by
  apply Nat.eq_of_testBit_eq
  intro i
  rw [Nat.testBit_xor, show (256 : Nat) = 2 ^ 8 from rfl, Nat.testBit_mul_two_pow, Nat.testBit_mod_two_pow, Nat.testBit_div_two_pow]
  by_cases h : i < 8
  · simp [h, show ¬ 8 ≤ i by omega]
  · simp [h, show 8 ≤ i by omega, show i - 8 + 8 = i by omega]
theorem byN_eq (x b : Nat) : byN x b = x / 256 ^^^ stNs 8 (x % 256 ^^^ b) := by
  conv => lhs; rw [hi_lo x]
  unfold byN
  rw [Nat.xor_assoc, stNs_xor]
  congr 1
  exact stNs_shift (x / 256) 8

theorem st_cast (n : Nat) (h : n < 2 ^ 32) : st (n : Int) = (stN n : Int) := by
  unfold st stN
  by_cases ho : n % 2 = 1
  · rw [if_pos (by omega), if_pos ho, u32_xor _ _ (by omega) (by omega) (by omega) (by omega)]
    rw [show ((n : Int) / 2).toNat = n / 2 by omega]
    rfl
  · rw [if_neg (by omega), if_neg ho]
    omega
theorem st8_cast (n : Nat) (h : n < 2 ^ 32) : ∀ k, st8 k (n : Int) = (stNs k n : Int)
  | 0 => rfl
  | k + 1 => by rw [st8, st8_cast n h k, st_cast _ (stNs_lt h k)]; rfl
theorem by_cast (x b : Nat) (hx : x < 2 ^ 32) (hb : b < 256) : by_ (x : Int) (b : Int) = (byN x b : Int) := by
  have h8 : x % 256 ^^^ b < 2 ^ 8 := Nat.xor_lt_two_pow (by omega) (by omega)
  have hs : stNs 8 (x % 256 ^^^ b) < 2 ^ 32 := stNs_lt (by omega) 8
  unfold by_
  rw [u8_xor _ _ (by omega) (by omega) (by omega) (by omega), show ((x : Int) % 256).toNat = x % 256 by omega, Int.toNat_natCast, st8_cast _ (by omega),
    u32_xor _ _ (by omega) (by omega) (by omega) (by omega), show ((x : Int) / 256).toNat = x / 256 by omega, Int.toNat_natCast, byN_eq]
theorem feed_cast (x : Nat) (hx : x < 2 ^ 32) (l : List UInt8) : feed (x : Int) l = (feedN x l : Int) := by
  induction l generalizing x with
  | nil => rfl
  | cons c l ih =>
    show feed (by_ (x : Int) (c.toNat : Int)) l = _
    rw [by_cast x c.toNat hx c.toNat_lt, ih _ (byN_lt hx c.toNat_lt)]
    rfl
def catB (l : List ByteArray) : List UInt8 := l.flatMap fun s => s.data.toList
theorem feeds_cast (x : Nat) (hx : x < 2 ^ 32) (l : List ByteArray) : feeds (x : Int) l = (feedN x (catB l) : Int) := by
  induction l generalizing x with
  | nil => rfl
  | cons s l ih =>
    show feeds (feed (x : Int) s.data.toList) l = _
    rw [feed_cast x hx, ih _ (feedN_lt hx _), show catB (s :: l) = s.data.toList ++ catB l from rfl, feedN_append]
theorem sum_cast (l : List ByteArray) : sum l = (crcN (catB l) : Int) := by
  unfold sum crcN
  have hf := feedN_lt (x := 4294967295) (by decide) (catB l)
  rw [show (4294967295 : Int) = ((4294967295 : Nat) : Int) from rfl, feeds_cast _ (by decide), u32_xor_nat _ _ (by decide) (by omega), Nat.xor_comm]

end Go.Proofs.Ytpfglhjgjfhkjaa.Mcrc
