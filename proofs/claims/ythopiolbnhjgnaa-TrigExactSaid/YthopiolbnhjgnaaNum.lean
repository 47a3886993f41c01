/- Plain numbers: three words of a number, a quotient by a power of two rounded to the nearest, and the bound. -/
import Derived.Laws.Bits64
import Derived.Laws.BitsAllLaws
import Derived.Laws.BitsLemmas
namespace Go.Proofs.Ythopiolbnhjgnaa


/-- The three words of a number modulo two to the power of 192. -/
def W0 (n : Int) : Int := n % 18446744073709551616
def W1 (n : Int) : Int := n / 18446744073709551616 % 18446744073709551616
def W2 (n : Int) : Int := n / 18446744073709551616 / 18446744073709551616 % 18446744073709551616

theorem W0_lo (n : Int) : 0 ≤ W0 n := by unfold W0; omega
theorem W1_lo (n : Int) : 0 ≤ W1 n := by unfold W1; omega
theorem W2_lo (n : Int) : 0 ≤ W2 n := by unfold W2; omega
theorem W0_hi (n : Int) : W0 n ≤ 18446744073709551615 := by unfold W0; omega
theorem W1_hi (n : Int) : W1 n ≤ 18446744073709551615 := by unfold W1; omega
theorem W2_hi (n : Int) : W2 n ≤ 18446744073709551615 := by unfold W2; omega

theorem W0_add (m n : Int) : (W0 m + W0 n) % 18446744073709551616 = W0 (m + n) := by unfold W0; omega
theorem W1_add (m n : Int) : (W1 m + W1 n + (W0 m + W0 n) / 18446744073709551616) % 18446744073709551616 = W1 (m + n) := by unfold W1 W0; omega
theorem W2_add (m n : Int) : (W2 m + W2 n + (W1 m + W1 n + (W0 m + W0 n) / 18446744073709551616) / 18446744073709551616) % 18446744073709551616 = W2 (m + n) := by
  unfold W2 W1 W0; omega

theorem not64 (a : Int) (h0 : 0 ≤ a) (h1 : a ≤ 18446744073709551615) : bits .xor .u64 IntKind.u64.max a = 18446744073709551615 - a := by
  obtain ⟨n, rfl⟩ : ∃ n : Nat, a = (n : Int) := ⟨a.toNat, by omega⟩
  have hn : n < 18446744073709551616 := by omega
  have e : IntKind.u64.max = ((18446744073709551615 : Nat) : Int) := by decide
  rw [e, bits_xor_u64_nat _ _ (by decide) hn]
  have h : (BitVec.allOnes 64 ^^^ BitVec.ofNat 64 n).toNat = 18446744073709551615 - n := by
    rw [BitVec.allOnes_xor, BitVec.toNat_not, BitVec.toNat_ofNat, Nat.mod_eq_of_lt hn]
  rw [BitVec.toNat_xor, BitVec.toNat_ofNat, Nat.mod_eq_of_lt hn] at h
  have h2 : (BitVec.allOnes 64).toNat = 18446744073709551615 := by decide
  rw [h2] at h
  omega

theorem W0_neg (n : Int) : (18446744073709551615 - W0 n + 1) % 18446744073709551616 = W0 (-n) := by unfold W0; omega
theorem W1_neg (n : Int) : (18446744073709551615 - W1 n + (18446744073709551615 - W0 n + 1) / 18446744073709551616) % 18446744073709551616 = W1 (-n) := by unfold W1 W0; omega
theorem W2_neg (n : Int) : (18446744073709551615 - W2 n + (18446744073709551615 - W1 n + (18446744073709551615 - W0 n + 1) / 18446744073709551616) / 18446744073709551616) % 18446744073709551616 = W2 (-n) := by
  unfold W2 W1 W0; omega

theorem W2_below (n : Int) (h0 : -3138550867693340381917894711603833208051177722232017256448 ≤ n) (h1 : n < 3138550867693340381917894711603833208051177722232017256448) :
    (W2 n / 9223372036854775808 == 1) = decide (n < 0) := by
  have : (W2 n / 9223372036854775808 = 1) ↔ n < 0 := by unfold W2; omega
  by_cases h : n < 0
  · simp [h, this.mpr h]
  · have h2 : ¬ (W2 n / 9223372036854775808 = 1) := fun k => h (this.mp k)
    simp [h, h2]

theorem wraps_u64 (n : Int) (h₀ : 0 ≤ n) (h₁ : n < 2 ^ 64) : IntKind.u64.wrap n = n := by rw [IntKind.wrap_u64]; omega

theorem two_le (k m : Nat) (h : k ≤ m) : (2 : Int) ^ k ≤ 2 ^ m := by
  have h2 : (2 : Nat) ^ k ≤ 2 ^ m := Nat.pow_le_pow_right (by decide) h
  exact_mod_cast h2

theorem or_low (a b q : Int) (m : Nat) (hm : m ≤ 64) (hq : q = 2 ^ m) (ha0 : 0 ≤ a) (ha : a < q) (hb0 : 0 ≤ b) (hb : b * q < 18446744073709551616) :
    bits .or .u64 a (b * q) = a + b * q := by
  have hq1 : 0 < q := by omega
  have hbq : 0 ≤ b * q := Int.mul_nonneg hb0 (by omega)
  have hle : q ≤ 18446744073709551616 := by
    have h := two_le m 64 hm
    rw [hq]
    exact Int.le_trans h (by decide)
  have c : bits .or .u64 a (b * q) = bits .or .u64 (b * q) a := by
    simp only [bits]
    rw [BitVec.or_comm]
  rw [c, bits_join .u64 64 (by decide) wraps_u64 m (b * q) a hbq (by rw [hq]; exact Int.mul_emod_left _ _) (by omega) ha0 (by omega) (by omega)]
  omega

theorem W0_div (n p q : Int) (hp : 0 < p) (hq : 0 < q) (h : p * q = 18446744073709551616) : W0 (n / p) = W0 n / p + (W1 n % p) * q := by
  have e1 : n = n % 18446744073709551616 + p * (q * (n / 18446744073709551616)) := by
    rw [← Int.mul_assoc, h]; omega
  have e2 : n / p = n % 18446744073709551616 / p + q * (n / 18446744073709551616) := by
    conv => lhs; rw [e1]
    rw [Int.add_mul_ediv_left _ _ (by omega)]
  have e3 : W1 n % p = n / 18446744073709551616 % p := by
    unfold W1
    exact Int.emod_emod_of_dvd _ ⟨q, h.symm⟩
  have l1 : 0 ≤ n % 18446744073709551616 / p := Int.ediv_nonneg (by omega) (by omega)
  have l2 : n % 18446744073709551616 / p < q := by
    apply Int.ediv_lt_of_lt_mul hp
    rw [Int.mul_comm, h]; omega
  rw [e3]
  unfold W0
  rw [e2]
  generalize n % 18446744073709551616 / p = x at *
  generalize n / 18446744073709551616 = d at *
  have e4 : q * d = 18446744073709551616 * (d / p) + d % p * q := by
    have := Int.mul_ediv_add_emod d p
    rw [← h]
    calc q * d = q * (p * (d / p) + d % p) := by rw [this]
      _ = p * q * (d / p) + d % p * q := by rw [Int.mul_add, ← Int.mul_assoc, Int.mul_comm q p, Int.mul_comm q (d % p)]
  have l3 : 0 ≤ d % p := Int.emod_nonneg _ (by omega)
  have l4 : d % p < p := Int.emod_lt_of_pos _ hp
  have l5 : 0 ≤ d % p * q := Int.mul_nonneg l3 (by omega)
  have l6 : d % p * q ≤ (p - 1) * q := Int.mul_le_mul_of_nonneg_right (by omega) (by omega)
  rw [Int.sub_mul, h, Int.one_mul] at l6
  rw [e4]
  omega

theorem wrap_up (b p q : Int) (hq : 0 < q) (h : p * q = 18446744073709551616) : IntKind.u64.wrap (b * q) = b % p * q := by
  rw [IntKind.wrap_u64, ← h, Int.mul_comm b q, Int.mul_comm p q, Int.mul_emod_mul_of_pos _ _ hq, Int.mul_comm]

theorem pow_split (k : Nat) (hk : k ≤ 64) : (2 : Int) ^ k * 2 ^ (64 - k) = 18446744073709551616 := by
  rw [← Int.pow_add, show k + (64 - k) = 64 by omega]; decide

theorem word_down (n : Int) (k : Nat) (hk : k ≤ 64) : bits .or .u64 (W0 n / 2 ^ k) (IntKind.u64.wrap (W1 n * 2 ^ (64 - k))) = W0 (n / 2 ^ k) := by
  have hp : (0 : Int) < 2 ^ k := Int.pow_pos (by decide)
  have hq : (0 : Int) < 2 ^ (64 - k) := Int.pow_pos (by decide)
  have h := pow_split k hk
  rw [wrap_up _ _ _ hq h, W0_div n _ _ hp hq h]
  have l3 : 0 ≤ W1 n % 2 ^ k := Int.emod_nonneg _ (by omega)
  have l4 : W1 n % 2 ^ k < 2 ^ k := Int.emod_lt_of_pos _ hp
  have l6 : W1 n % 2 ^ k * 2 ^ (64 - k) ≤ (2 ^ k - 1) * 2 ^ (64 - k) := Int.mul_le_mul_of_nonneg_right (by omega) (by omega)
  rw [Int.sub_mul, h, Int.one_mul] at l6
  apply or_low _ _ _ (64 - k) (by omega) rfl
  · exact Int.ediv_nonneg (W0_lo n) (by omega)
  · apply Int.ediv_lt_of_lt_mul hp
    rw [Int.mul_comm, h]; have := W0_hi n; omega
  · exact l3
  · omega

theorem W1_as (n : Int) : W1 n = W0 (n / 18446744073709551616) := rfl
theorem W2_as (n : Int) : W2 n = W1 (n / 18446744073709551616) := rfl
theorem div_swap (n p : Int) (hp : 0 ≤ p) : n / p / 18446744073709551616 = n / 18446744073709551616 / p := by
  rw [Int.ediv_ediv_of_nonneg hp, Int.ediv_ediv_of_nonneg (by decide), Int.mul_comm]

theorem word_down1 (n : Int) (k : Nat) (hk : k ≤ 64) : bits .or .u64 (W1 n / 2 ^ k) (IntKind.u64.wrap (W2 n * 2 ^ (64 - k))) = W1 (n / 2 ^ k) := by
  have hp : (0 : Int) < 2 ^ k := Int.pow_pos (by decide)
  rw [W1_as, W2_as, word_down _ k hk, W1_as, div_swap n _ (by omega)]

theorem word_down2 (n : Int) (k : Nat) (hk : k ≤ 64) (h0 : 0 ≤ n) (h1 : n < 3138550867693340381917894711603833208051177722232017256448) : bits .or .u64 (W2 n / 2 ^ k) 0 = W2 (n / 2 ^ k) := by
  have hp : (0 : Int) < 2 ^ k := Int.pow_pos (by decide)
  have h := word_down (n / 18446744073709551616 / 18446744073709551616) k hk
  have e : W1 (n / 18446744073709551616 / 18446744073709551616) = 0 := by unfold W1; omega
  rw [e, Int.zero_mul] at h
  have z : IntKind.u64.wrap 0 = 0 := by decide
  rw [z] at h
  rw [W2_as, W1_as, h, W2_as, W1_as, div_swap n _ (Int.le_of_lt hp), div_swap _ _ (Int.le_of_lt hp)]

theorem word_down2n (n : Int) (k : Nat) (hk : k ≤ 64) (h0 : -3138550867693340381917894711603833208051177722232017256448 ≤ n) (h1 : n < 0) : bits .or .u64 (W2 n / 2 ^ k) (IntKind.u64.wrap (18446744073709551615 * 2 ^ (64 - k))) = W2 (n / 2 ^ k) := by
  have hp : (0 : Int) < 2 ^ k := Int.pow_pos (by decide)
  have h := word_down (n / 18446744073709551616 / 18446744073709551616) k hk
  have e : W1 (n / 18446744073709551616 / 18446744073709551616) = 18446744073709551615 := by unfold W1; omega
  rw [e] at h
  rw [W2_as, W1_as, h, W2_as, W1_as, div_swap n _ (Int.le_of_lt hp), div_swap _ _ (Int.le_of_lt hp)]

theorem pow_small (k : Nat) (hk : k ≤ 62) : (2 : Int) ^ k ≤ 4611686018427387904 := by
  have h := two_le k 62 hk
  exact Int.le_trans h (by decide)

theorem wrap_pow (k : Nat) (hk : k ≤ 62) : IntKind.u64.wrap (2 ^ k) = 2 ^ k := by
  have hp : (0 : Int) < 2 ^ k := Int.pow_pos (by decide)
  have := pow_small k hk
  rw [IntKind.wrap_u64]; omega

theorem lost_low (n : Int) (k : Nat) (hk : k ≤ 62) : bits .and .u64 (W0 n) (IntKind.u64.wrap (2 ^ k - 1)) = n % 2 ^ k := by
  have hp : (0 : Int) < 2 ^ k := Int.pow_pos (by decide)
  have := pow_small k hk
  have e : IntKind.u64.wrap (2 ^ k - 1) = 2 ^ k - 1 := by rw [IntKind.wrap_u64]; omega
  have l := W0_hi n
  rw [e, bits_mask .u64 64 (by decide) wraps_u64 k (by omega) (W0 n) (W0_lo n) (by omega)]
  unfold W0
  exact Int.emod_emod_of_dvd _ ⟨2 ^ (64 - k), (pow_split k (by omega)).symm⟩

theorem odd_low (n : Int) : bits .and .u64 (W0 n) 1 = n % 2 := by
  have h := lost_low n 1 (by decide)
  have e : IntKind.u64.wrap ((2 : Int) ^ 1 - 1) = 1 := by decide
  rw [e] at h
  exact h

/-- A quotient by a size above 0, rounded to the nearest, of two such to the even one. -/
def rq (n d : Int) : Int := if n % d * 2 > d ∨ (n % d * 2 = d ∧ n / d % 2 = 1) then n / d + 1 else n / d

theorem two_half (k : Nat) (k0 : ¬ k = 0) : (2 : Int) ^ k = 2 ^ (k - 1) * 2 := by
  obtain ⟨j, rfl⟩ : ∃ j, k = j + 1 := ⟨k - 1, by omega⟩
  rw [Int.pow_succ]; rfl
theorem rq_a (n : Int) (k : Nat) (k0 : ¬ k = 0) (h : 2 ^ (k - 1) < n % 2 ^ k) : rq n (2 ^ k) = n / 2 ^ k + 1 := by
  unfold rq
  rw [if_pos]
  have := two_half k k0
  exact Or.inl (by omega)
theorem rq_b (n : Int) (k : Nat) (k0 : ¬ k = 0) (h : n % 2 ^ k = 2 ^ (k - 1)) (h2 : (n / 2 ^ k % 2 == 1) = true) : rq n (2 ^ k) = n / 2 ^ k + 1 := by
  unfold rq
  rw [if_pos]
  have := two_half k k0
  exact Or.inr ⟨by omega, by simpa using h2⟩
theorem rq_c (n : Int) (k : Nat) (k0 : ¬ k = 0) (h : n % 2 ^ k = 2 ^ (k - 1)) (h2 : (n / 2 ^ k % 2 == 1) = false) : rq n (2 ^ k) = n / 2 ^ k := by
  unfold rq
  rw [if_neg]
  have := two_half k k0
  have h3 : ¬ n / 2 ^ k % 2 = 1 := by simpa using h2
  rintro (a | ⟨_, b⟩)
  · omega
  · exact h3 b
theorem rq_d (n : Int) (k : Nat) (k0 : ¬ k = 0) (h : n % 2 ^ k ≤ 2 ^ (k - 1)) (h2 : ¬ n % 2 ^ k = 2 ^ (k - 1)) : rq n (2 ^ k) = n / 2 ^ k := by
  unfold rq
  rw [if_neg]
  have := two_half k k0
  rintro (a | ⟨a, _⟩)
  · omega
  · omega
theorem rq_0 (n : Int) : rq n (2 ^ 0) = n := by
  unfold rq
  have e : (2 : Int) ^ 0 = 1 := by decide
  rw [e, if_neg]
  · omega
  · omega

/-- Bounded by the greatest number. -/
def top : Int := 4611686018427387903
def bnd (n : Int) : Int := if n < -4611686018427387903 then -4611686018427387903 else if n > 4611686018427387903 then 4611686018427387903 else n
def ovr (n : Int) : Bool := decide (n < -4611686018427387903 ∨ n > 4611686018427387903)

/-- A sum of products, of so many. -/
def dotS (x y : Nat → Int) : Nat → Int
  | 0 => 0
  | k + 1 => dotS x y k + x k * y k

/-- A number of 64 bits. -/
def I64 (a : Int) : Prop := -9223372036854775808 ≤ a ∧ a ≤ 9223372036854775807

theorem mul_bd {a b : Int} (ha : I64 a) (hb : I64 b) : -85070591730234615865843651857942052864 ≤ a * b ∧ a * b ≤ 85070591730234615865843651857942052864 := by
  unfold I64 at ha hb
  have h1 : (a * b).natAbs = a.natAbs * b.natAbs := Int.natAbs_mul a b
  have h2 : a.natAbs * b.natAbs ≤ 9223372036854775808 * 9223372036854775808 := Nat.mul_le_mul (by omega) (by omega)
  omega

theorem dotS_bd {x y : Nat → Int} {n : Nat} (hx : ∀ i, i < n → I64 (x i)) (hy : ∀ i, i < n → I64 (y i)) : ∀ k, k ≤ n → -85070591730234615865843651857942052864 * (k : Int) ≤ dotS x y k ∧ dotS x y k ≤ 85070591730234615865843651857942052864 * (k : Int)
  | 0, _ => by simp [dotS]
  | k + 1, h => by
    have ih := dotS_bd hx hy k (by omega)
    have := mul_bd (hx k (by omega)) (hy k (by omega))
    simp only [dotS]
    omega

theorem rq_bd (n d B : Int) (hd : 1 ≤ d) (hB : 0 ≤ B) (h0 : -B ≤ n) (h1 : n ≤ B) : -B ≤ rq n d ∧ rq n d ≤ B + 1 := by
  have e0 : -B ≤ n / d := by
    apply Int.le_ediv_of_mul_le (by omega)
    have := Int.mul_le_mul_of_nonneg_left hd hB
    rw [Int.neg_mul]; omega
  have e1 : n / d ≤ B := by
    apply Int.le_of_lt_add_one
    apply Int.ediv_lt_of_lt_mul (by omega)
    have := Int.mul_le_mul_of_nonneg_left hd (show 0 ≤ B + 1 by omega)
    omega
  unfold rq
  split <;> omega

theorem dot_in (x y : Nat → Int) (n k : Nat) (hn : n ≤ 64) (hx : ∀ i, i < n → I64 (x i)) (hy : ∀ i, i < n → I64 (y i)) :
    (-3138550867693340381917894711603833208051177722232017256448 ≤ dotS x y n ∧ dotS x y n < 3138550867693340381917894711603833208051177722232017256448) ∧
    (-3138550867693340381917894711603833208051177722232017256448 ≤ rq (dotS x y n) (2 ^ k) + -4611686018427387904 ∧ rq (dotS x y n) (2 ^ k) + 4611686018427387903 < 3138550867693340381917894711603833208051177722232017256448) := by
  have h := dotS_bd hx hy n (Nat.le_refl n)
  have hp : (0 : Int) < 2 ^ k := Int.pow_pos (by decide)
  have h2 := rq_bd (dotS x y n) (2 ^ k) 5444517870735015415413993718908291383296 (by omega) (by decide) (by omega) (by omega)
  omega

end Go.Proofs.Ythopiolbnhjgnaa
