/- Plain numbers of the angles: both squares together, of a sine and a cosine. -/
import Derived.Test.YthopiolbnhjgnaaTrigM
namespace Go.Proofs.Ythopiolbnhjgnaa

theorem mul_bd2 {a b A B : Int} (h0 : -A ≤ a) (h1 : a ≤ A) (h2 : -B ≤ b) (h3 : b ≤ B) : -(A * B) ≤ a * b ∧ a * b ≤ A * B := by
  have e : (a * b).natAbs = a.natAbs * b.natAbs := Int.natAbs_mul a b
  have l : a.natAbs * b.natAbs ≤ A.toNat * B.toNat := Nat.mul_le_mul (by omega) (by omega)
  have m : ((A.toNat * B.toNat : Nat) : Int) = A * B := by
    rw [Int.natCast_mul, Int.toNat_of_nonneg (by omega), Int.toNat_of_nonneg (by omega)]
  omega

/-- One step's squares: what a rest is cut off. -/
theorem norm_id (p xq xr yq yr : Int) :
    p * p * (((p * xq + xr) - yq) * ((p * xq + xr) - yq) + ((p * yq + yr) + xq) * ((p * yq + yr) + xq)) =
    (p * p + 1) * ((p * xq + xr) * (p * xq + xr) + (p * yq + yr) * (p * yq + yr)) + (2 * (p * (p * xq + xr) - (p * yq + yr)) * yr - 2 * (p * (p * yq + yr) + (p * xq + xr)) * xr + yr * yr + xr * xr) := by
  grind
theorem norm_id2 (p xq xr yq yr : Int) :
    p * p * (((p * xq + xr) + yq) * ((p * xq + xr) + yq) + ((p * yq + yr) - xq) * ((p * yq + yr) - xq)) =
    (p * p + 1) * ((p * xq + xr) * (p * xq + xr) + (p * yq + yr) * (p * yq + yr)) + (-2 * (p * (p * xq + xr) + (p * yq + yr)) * yr + 2 * (p * (p * yq + yr) - (p * xq + xr)) * xr + yr * yr + xr * xr) := by
  grind
/-- How far one step's squares may be off: 18 times the bound, by the step's square. -/
theorem norm_left (x y p B : Int) (hp : 1 ≤ p) (hB : 1 ≤ B) (x0 : -B ≤ x) (x1 : x ≤ B) (y0 : -B ≤ y) (y1 : y ≤ B) :
    (p * p + 1) * (x * x + y * y) - p * p * (10 * B) ≤ p * p * ((x - y / p) * (x - y / p) + (y + x / p) * (y + x / p)) ∧
    p * p * ((x - y / p) * (x - y / p) + (y + x / p) * (y + x / p)) ≤ (p * p + 1) * (x * x + y * y) + p * p * (10 * B) := by
  have ex := Int.mul_ediv_add_emod x p
  have ey := Int.mul_ediv_add_emod y p
  have lx := Int.emod_nonneg x (show p ≠ 0 by omega)
  have ux := Int.emod_lt_of_pos x (show 0 < p by omega)
  have ly := Int.emod_nonneg y (show p ≠ 0 by omega)
  have uy := Int.emod_lt_of_pos y (show 0 < p by omega)
  have id := norm_id p (x / p) (x % p) (y / p) (y % p)
  rw [ex, ey] at id
  generalize x % p = xr at *
  generalize y % p = yr at *
  generalize x / p = xq at *
  generalize y / p = yq at *
  have b1 : -(p * B) ≤ p * x ∧ p * x ≤ p * B := mul_bd2 (by omega) (Int.le_refl _) x0 x1
  have b2 : -(p * B) ≤ p * y ∧ p * y ≤ p * B := mul_bd2 (by omega) (Int.le_refl _) y0 y1
  have b3 : 1 * B ≤ p * B := Int.mul_le_mul_of_nonneg_right hp (by omega)
  have c1 := mul_bd2 (a := 2 * (p * x - y)) (A := 4 * (p * B)) (b := yr) (B := p) (by omega) (by omega) (by omega) (by omega)
  have c2 := mul_bd2 (a := 2 * (p * y + x)) (A := 4 * (p * B)) (b := xr) (B := p) (by omega) (by omega) (by omega) (by omega)
  have c3 := mul_bd2 (a := yr) (A := p) (b := yr) (B := p) (by omega) (by omega) (by omega) (by omega)
  have c4 := mul_bd2 (a := xr) (A := p) (b := xr) (B := p) (by omega) (by omega) (by omega) (by omega)
  have e1 : 4 * (p * B) * p = 4 * (p * p * B) := by grind
  have e2 : p * p * (10 * B) = 10 * (p * p * B) := by grind
  have e3 : p * p * 1 ≤ p * p * B := Int.mul_le_mul_of_nonneg_left hB (Int.mul_nonneg (by omega) (by omega))
  rw [id, e2]
  rw [e1] at c1 c2
  omega
theorem norm_right (x y p B : Int) (hp : 1 ≤ p) (hB : 1 ≤ B) (x0 : -B ≤ x) (x1 : x ≤ B) (y0 : -B ≤ y) (y1 : y ≤ B) :
    (p * p + 1) * (x * x + y * y) - p * p * (10 * B) ≤ p * p * ((x + y / p) * (x + y / p) + (y - x / p) * (y - x / p)) ∧
    p * p * ((x + y / p) * (x + y / p) + (y - x / p) * (y - x / p)) ≤ (p * p + 1) * (x * x + y * y) + p * p * (10 * B) := by
  have ex := Int.mul_ediv_add_emod x p
  have ey := Int.mul_ediv_add_emod y p
  have lx := Int.emod_nonneg x (show p ≠ 0 by omega)
  have ux := Int.emod_lt_of_pos x (show 0 < p by omega)
  have ly := Int.emod_nonneg y (show p ≠ 0 by omega)
  have uy := Int.emod_lt_of_pos y (show 0 < p by omega)
  have id := norm_id2 p (x / p) (x % p) (y / p) (y % p)
  rw [ex, ey] at id
  generalize x % p = xr at *
  generalize y % p = yr at *
  generalize x / p = xq at *
  generalize y / p = yq at *
  have b1 : -(p * B) ≤ p * x ∧ p * x ≤ p * B := mul_bd2 (by omega) (Int.le_refl _) x0 x1
  have b2 : -(p * B) ≤ p * y ∧ p * y ≤ p * B := mul_bd2 (by omega) (Int.le_refl _) y0 y1
  have b3 : 1 * B ≤ p * B := Int.mul_le_mul_of_nonneg_right hp (by omega)
  have c1 := mul_bd2 (a := -2 * (p * x + y)) (A := 4 * (p * B)) (b := yr) (B := p) (by omega) (by omega) (by omega) (by omega)
  have c2 := mul_bd2 (a := 2 * (p * y - x)) (A := 4 * (p * B)) (b := xr) (B := p) (by omega) (by omega) (by omega) (by omega)
  have c3 := mul_bd2 (a := yr) (A := p) (b := yr) (B := p) (by omega) (by omega) (by omega) (by omega)
  have c4 := mul_bd2 (a := xr) (A := p) (b := xr) (B := p) (by omega) (by omega) (by omega) (by omega)
  have e1 : 4 * (p * B) * p = 4 * (p * p * B) := by grind
  have e2 : p * p * (10 * B) = 10 * (p * p * B) := by grind
  have e3 : p * p * 1 ≤ p * p * B := Int.mul_le_mul_of_nonneg_left hB (Int.mul_nonneg (by omega) (by omega))
  rw [id, e2]
  rw [e1] at c1 c2
  omega

/-- The products of the steps' squares, and of those plus one; how far the squares may be off. -/
def nD : Nat → Int
  | 0 => 1
  | k + 1 => nD k * (2 ^ k * 2 ^ k)
def nG : Nat → Int
  | 0 => 1
  | k + 1 => nG k * (2 ^ k * 2 ^ k + 1)
def nE : Nat → Int
  | 0 => 0
  | k + 1 => (2 ^ k * 2 ^ k + 1) * nE k + 2 ^ k * 2 ^ k * (10 * 9223372036854775807) * nD k
def sq (s : Tri) : Int := s.x * s.x + s.y * s.y
theorem nD_pos : ∀ k, 1 ≤ nD k
  | 0 => by decide
  | k + 1 => by
    have h := nD_pos k
    have hp : (0 : Int) < 2 ^ k := Int.pow_pos (by decide)
    have h2 : (0 : Int) < nD k * (2 ^ k * 2 ^ k) := Int.mul_pos (by omega) (Int.mul_pos hp hp)
    simp only [nD]
    omega
theorem norm_arith (q N N' D G E n0 B : Int) (hq : 1 ≤ q) (hD : 1 ≤ D) (a : n0 * G - E ≤ N * D) (b : N * D ≤ n0 * G + E)
    (c : (q + 1) * N - q * B ≤ q * N') (d : q * N' ≤ (q + 1) * N + q * B) :
    n0 * (G * (q + 1)) - ((q + 1) * E + q * B * D) ≤ N' * (D * q) ∧ N' * (D * q) ≤ n0 * (G * (q + 1)) + ((q + 1) * E + q * B * D) := by
  have h1 := Int.mul_le_mul_of_nonneg_left c (show (0 : Int) ≤ D by omega)
  have h2 := Int.mul_le_mul_of_nonneg_left d (show (0 : Int) ≤ D by omega)
  have h3 := Int.mul_le_mul_of_nonneg_left a (show (0 : Int) ≤ q + 1 by omega)
  have h4 := Int.mul_le_mul_of_nonneg_left b (show (0 : Int) ≤ q + 1 by omega)
  constructor <;> grind
theorem sq_run (z x y : Int) (hz : -1152921504606846976 ≤ z ∧ z ≤ 1152921504606846976) (hx : -1152921504606846976 ≤ x ∧ x ≤ 1152921504606846976) (hy : -1152921504606846976 ≤ y ∧ y ≤ 1152921504606846976) :
    ∀ k, k ≤ 40 → (x * x + y * y) * nG k - nE k ≤ sq (runZ z x y k) * nD k ∧ sq (runZ z x y k) * nD k ≤ (x * x + y * y) * nG k + nE k
  | 0, _ => by simp [nG, nE, nD, runZ, sq]
  | k + 1, hk => by
    obtain ⟨a, b⟩ := sq_run z x y hz hx hy k (by omega)
    obtain ⟨⟨x0, x1⟩, ⟨y0, y1⟩, _⟩ := Tri.ok_64 (runZ_ok z x y hz hx hy k) (by omega)
    have ok := runZ_ok z x y hz hx hy k
    have bk := bX_le k (by omega)
    obtain ⟨⟨x0, x1⟩, ⟨y0, y1⟩, _⟩ := ok
    have hp : (0 : Int) < 2 ^ k := Int.pow_pos (by decide)
    have hq : (0 : Int) < 2 ^ k * 2 ^ k := Int.mul_pos hp hp
    have hD := nD_pos k
    have key : ((2 ^ k * 2 ^ k + 1) * sq (runZ z x y k) - 2 ^ k * 2 ^ k * (10 * 9223372036854775807) ≤ 2 ^ k * 2 ^ k * sq (runZ z x y (k + 1))) ∧ (2 ^ k * 2 ^ k * sq (runZ z x y (k + 1)) ≤ (2 ^ k * 2 ^ k + 1) * sq (runZ z x y k) + 2 ^ k * 2 ^ k * (10 * 9223372036854775807)) := by
      simp only [runZ]
      split
      · exact norm_left (runZ z x y k).x (runZ z x y k).y (2 ^ k) 9223372036854775807 (by omega) (by decide) (by omega) (by omega) (by omega) (by omega)
      · exact norm_right (runZ z x y k).x (runZ z x y k).y (2 ^ k) 9223372036854775807 (by omega) (by decide) (by omega) (by omega) (by omega) (by omega)
    simp only [nG, nE, nD]
    exact norm_arith (2 ^ k * 2 ^ k) _ _ _ _ _ _ _ (by omega) hD a b key.1 key.2

theorem nums40 : (cstart * cstart + cstart * cstart) * nG 40 - nE 40 ≥ (1329227995784915872903807060280344576 - 2 ^ 75) * nD 40 ∧ (cstart * cstart + cstart * cstart) * nG 40 + nE 40 ≤ (1329227995784915872903807060280344576 + 2 ^ 75) * nD 40 := by
  decide +kernel
/-- Both squares, ahead of the rounding: within 2^75 of 2^120. -/
theorem sq_end (z : Int) (hz : -1152921504606846976 ≤ z ∧ z ≤ 1152921504606846976) :
    1329227995784915872903807060280344576 - 2 ^ 75 ≤ sq (runZ z cstart cstart 40) ∧ sq (runZ z cstart cstart 40) ≤ 1329227995784915872903807060280344576 + 2 ^ 75 := by
  have hc : -1152921504606846976 ≤ cstart ∧ cstart ≤ 1152921504606846976 := by decide
  obtain ⟨a, b⟩ := sq_run z cstart cstart hz hc hc 40 (Nat.le_refl _)
  obtain ⟨c, d⟩ := nums40
  have hD := nD_pos 40
  exact ⟨Int.le_of_mul_le_mul_right (Int.le_trans c a) (by omega), Int.le_of_mul_le_mul_right (Int.le_trans b d) (by omega)⟩
/-- A part ahead of the rounding is no greater than a little over 2^60. -/
theorem sq_part (x y : Int) (h : x * x + y * y ≤ 1329227995784915872903807060280344576 + 2 ^ 75) : -1152921504606863360 ≤ x ∧ x ≤ 1152921504606863360 := by
  have hy : 0 ≤ y * y := by rw [← Int.natAbs_mul_self]; omega
  have e : x * x = ((x.natAbs * x.natAbs : Nat) : Int) := Int.natAbs_mul_self.symm
  have : x.natAbs ≤ 1152921504606863360 := by
    by_cases hc : x.natAbs ≤ 1152921504606863360
    · exact hc
    · exfalso
      have := Nat.mul_le_mul (show 1152921504606863361 ≤ x.natAbs by omega) (show 1152921504606863361 ≤ x.natAbs by omega)
      omega
  omega
theorem rnd_near (n : Int) (h0 : -1152921504606863360 ≤ n) (h1 : n ≤ 1152921504606863360) : -536870912 ≤ n - 1073741824 * rnd n ∧ n - 1073741824 * rnd n ≤ 536870912 := by
  unfold rnd bnd rq
  have e : (2 : Int) ^ 30 = 1073741824 := by decide
  rw [e]
  split <;> split <;> (try split) <;> omega
/-- Both squares of the rounded parts: within 2^33 of 2^60. -/
theorem sq_fin (x y : Int) (h0 : 1329227995784915872903807060280344576 - 2 ^ 75 ≤ x * x + y * y) (h : x * x + y * y ≤ 1329227995784915872903807060280344576 + 2 ^ 75) :
    1152921504606846976 - 8589934592 ≤ rnd x * rnd x + rnd y * rnd y ∧ rnd x * rnd x + rnd y * rnd y ≤ 1152921504606846976 + 8589934592 := by
  obtain ⟨x0, x1⟩ := sq_part x y h
  obtain ⟨y0, y1⟩ := sq_part y x (by omega)
  obtain ⟨a0, a1⟩ := rnd_near x x0 x1
  obtain ⟨b0, b1⟩ := rnd_near y y0 y1
  generalize rnd x = u at *
  generalize rnd y = v at *
  obtain ⟨d, hd⟩ : ∃ d, x = 1073741824 * u + d := ⟨x - 1073741824 * u, by omega⟩
  obtain ⟨f, hf⟩ : ∃ f, y = 1073741824 * v + f := ⟨y - 1073741824 * v, by omega⟩
  have c1 := mul_bd2 (a := d) (A := 536870912) (b := u) (B := 1073742000) (by omega) (by omega) (by omega) (by omega)
  have c2 := mul_bd2 (a := f) (A := 536870912) (b := v) (B := 1073742000) (by omega) (by omega) (by omega) (by omega)
  have c3 := mul_bd2 (a := d) (A := 536870912) (b := d) (B := 536870912) (by omega) (by omega) (by omega) (by omega)
  have c4 := mul_bd2 (a := f) (A := 536870912) (b := f) (B := 536870912) (by omega) (by omega) (by omega) (by omega)
  have e : x * x + y * y = 1152921504606846976 * (u * u + v * v) + 2147483648 * (d * u) + 2147483648 * (f * v) + d * d + f * f := by
    rw [hd, hf]; grind
  omega
theorem quarter_sq (t : Int) : 1152921504606846976 - 8589934592 ≤ sinQ t * sinQ t + cosQ t * cosQ t ∧ sinQ t * sinQ t + cosQ t * cosQ t ≤ 1152921504606846976 + 8589934592 := by
  obtain ⟨a, b⟩ := sq_end (rest t) (rest_bd t)
  have h := sq_fin _ _ a b
  unfold sinQ cosQ
  omega
/-- Both squares of a sine and a cosine. -/
theorem turn_sq (t : Int) : 1152921504606846976 - 8589934592 ≤ sinT t * sinT t + cosT t * cosT t ∧ sinT t * sinT t + cosT t * cosT t ≤ 1152921504606846976 + 8589934592 := by
  have h := quarter_sq t
  unfold sinT cosT
  split
  · exact h
  · split
    · rw [Int.neg_mul_neg]; omega
    · split
      · rw [Int.neg_mul_neg, Int.neg_mul_neg]; exact h
      · rw [Int.neg_mul_neg]; omega
end Go.Proofs.Ythopiolbnhjgnaa
