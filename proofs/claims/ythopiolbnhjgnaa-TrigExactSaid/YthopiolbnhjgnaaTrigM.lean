/- Plain numbers of the angles: a pair turned step by step, and its bounds. -/
import Derived.Test.YthopiolbnhjgnaaNum
namespace Go.Proofs.Ythopiolbnhjgnaa

def angs : List Int := [
  576460752303423488, 340304653033718298, 179807632645220259, 91273161881380487,
  45813697873323707, 22929182573009054, 11467389120678282, 5734044481687724,
  2867065987018958, 1433538461969102, 716769914547871, 358385042719534,
  179192532040472, 89596267355325, 44798133844548, 22399066943135,
  11199533474175, 5599766737413, 2799883368747, 1399941684379,
  699970842190, 349985421095, 174992710548, 87496355274,
  43748177637, 21874088818, 10937044409, 5468522205,
  2734261102, 1367130551, 683565276, 341782638,
  170891319, 85445659, 42722830, 21361415,
  10680707, 5340354, 2670177, 1335088]
def ang (k : Nat) : Int := angs.getD k 0

/-- What a pair and an angle are: the angle, x, y. -/
structure Tri where
  z : Int
  x : Int
  y : Int

def Tri.left (k : Nat) (s : Tri) : Tri := ⟨s.z - ang k, s.x - s.y / 2 ^ k, s.y + s.x / 2 ^ k⟩
def Tri.right (k : Nat) (s : Tri) : Tri := ⟨s.z + ang k, s.x + s.y / 2 ^ k, s.y - s.x / 2 ^ k⟩
/-- Turned towards an angle of nought. -/
def runZ (z x y : Int) : Nat → Tri
  | 0 => ⟨z, x, y⟩
  | k + 1 => if 0 ≤ (runZ z x y k).z then (runZ z x y k).left k else (runZ z x y k).right k
/-- Turned towards a y of nought. -/
def runY (x y : Int) : Nat → Tri
  | 0 => ⟨0, x, y⟩
  | k + 1 => if 0 < (runY x y k).y then (runY x y k).right k else (runY x y k).left k

/-- Bounds. -/
def bX : Nat → Int
  | 0 => 1152921504606846976
  | k + 1 => bX k + bX k / 2 ^ k + 1
def bZ : Nat → Int
  | 0 => 1152921504606846976
  | k + 1 => bZ k + ang k

theorem ang_nn (k : Nat) : 0 ≤ ang k := by
  by_cases h : k < 40
  · have : ∀ j : Fin 40, 0 ≤ ang j.1 := by decide
    exact this ⟨k, h⟩
  · unfold ang
    have : angs[k]? = none := List.getElem?_eq_none (by show 40 ≤ k; omega)
    rw [List.getD, this]
    decide
theorem ang_le (k : Nat) : ang k ≤ 576460752303423488 := by
  by_cases h : k < 40
  · have : ∀ j : Fin 40, ang j.1 ≤ 576460752303423488 := by decide
    exact this ⟨k, h⟩
  · unfold ang
    have : angs[k]? = none := List.getElem?_eq_none (by show 40 ≤ k; omega)
    rw [List.getD, this]
    decide
theorem bX_le (k : Nat) (h : k ≤ 40) : bX k ≤ 9223372036854775807 := by
  have : ∀ j : Fin 41, bX j.1 ≤ 9223372036854775807 := by decide +kernel
  exact this ⟨k, by omega⟩
theorem bZ_le (k : Nat) (h : k ≤ 40) : bZ k ≤ 9223372036854775807 := by
  have : ∀ j : Fin 41, bZ j.1 ≤ 9223372036854775807 := by decide +kernel
  exact this ⟨k, by omega⟩
theorem bX_nn : ∀ k, 0 ≤ bX k
  | 0 => by decide
  | k + 1 => by
    have := bX_nn k
    have h : 0 ≤ bX k / 2 ^ k := Int.ediv_nonneg this (Int.le_of_lt (Int.pow_pos (by decide)))
    simp only [bX]; omega

/-- A triple within its bounds at a step. -/
def Tri.ok (s : Tri) (k : Nat) : Prop := (-bX k ≤ s.x ∧ s.x ≤ bX k) ∧ (-bX k ≤ s.y ∧ s.y ≤ bX k) ∧ (-bZ k ≤ s.z ∧ s.z ≤ bZ k)

theorem div_bd (y B : Int) (k : Nat) (h0 : -B ≤ y) (h1 : y ≤ B) : -(B / 2 ^ k) - 1 ≤ y / 2 ^ k ∧ y / 2 ^ k ≤ B / 2 ^ k := by
  have hp : (0 : Int) < 2 ^ k := Int.pow_pos (by decide)
  constructor
  · have h2 : (-B) / 2 ^ k ≤ y / 2 ^ k := Int.ediv_le_ediv hp h0
    have h3 : -(B / 2 ^ k) - 1 ≤ (-B) / 2 ^ k := by
      apply Int.le_ediv_of_mul_le hp
      have e := Int.mul_ediv_add_emod B (2 ^ k)
      have l := Int.emod_lt_of_pos B hp
      have : (-(B / 2 ^ k) - 1) * 2 ^ k = -(2 ^ k * (B / 2 ^ k)) - 2 ^ k := by
        rw [Int.sub_mul, Int.neg_mul, Int.one_mul, Int.mul_comm]
      omega
    omega
  · exact Int.ediv_le_ediv hp h1

theorem Tri.ok_left {s : Tri} {k : Nat} (h : s.ok k) : (s.left k).ok (k + 1) := by
  obtain ⟨⟨a, b⟩, ⟨c, d⟩, ⟨e, f⟩⟩ := h
  have h1 := div_bd s.y _ k c d
  have h2 := div_bd s.x _ k a b
  have h3 := ang_nn k
  simp only [Tri.ok, Tri.left, bX, bZ]
  omega
theorem Tri.ok_right {s : Tri} {k : Nat} (h : s.ok k) : (s.right k).ok (k + 1) := by
  obtain ⟨⟨a, b⟩, ⟨c, d⟩, ⟨e, f⟩⟩ := h
  have h1 := div_bd s.y _ k c d
  have h2 := div_bd s.x _ k a b
  have h3 := ang_nn k
  simp only [Tri.ok, Tri.right, bX, bZ]
  omega
theorem runZ_ok (z x y : Int) (hz : -1152921504606846976 ≤ z ∧ z ≤ 1152921504606846976) (hx : -1152921504606846976 ≤ x ∧ x ≤ 1152921504606846976) (hy : -1152921504606846976 ≤ y ∧ y ≤ 1152921504606846976) : ∀ k, (runZ z x y k).ok k
  | 0 => ⟨hx, hy, hz⟩
  | k + 1 => by
    simp only [runZ]
    split
    · exact Tri.ok_left (runZ_ok z x y hz hx hy k)
    · exact Tri.ok_right (runZ_ok z x y hz hx hy k)
theorem runY_ok (x y : Int) (hx : -1152921504606846976 ≤ x ∧ x ≤ 1152921504606846976) (hy : -1152921504606846976 ≤ y ∧ y ≤ 1152921504606846976) : ∀ k, (runY x y k).ok k
  | 0 => ⟨hx, hy, by simp [runY, bZ]⟩
  | k + 1 => by
    simp only [runY]
    split
    · exact Tri.ok_right (runY_ok x y hx hy k)
    · exact Tri.ok_left (runY_ok x y hx hy k)
theorem Tri.ok_64 {s : Tri} {k : Nat} (h : s.ok k) (hk : k ≤ 40) : I64 s.x ∧ I64 s.y ∧ I64 s.z := by
  obtain ⟨⟨a, b⟩, ⟨c, d⟩, ⟨e, f⟩⟩ := h
  have := bX_le k hk
  have := bZ_le k hk
  unfold I64
  omega

/-- By two to the power of thirty, rounded. -/
def rnd (n : Int) : Int := bnd (rq n (2 ^ 30))
/-- The start of both parts of a pair. -/
def cstart : Int := 495056041134655927
def rest (t : Int) : Int := t % 1073741824 * 1073741824 - 576460752303423488
def cosQ (t : Int) : Int := rnd (runZ (rest t) cstart cstart 40).x
def sinQ (t : Int) : Int := rnd (runZ (rest t) cstart cstart 40).y
/-- The sine and the cosine of a direction. -/
def sinT (t : Int) : Int := if t / 1073741824 = 0 then sinQ t else if t / 1073741824 = 1 then cosQ t else if t / 1073741824 = 2 then -sinQ t else -cosQ t
def cosT (t : Int) : Int := if t / 1073741824 = 0 then cosQ t else if t / 1073741824 = 1 then -sinQ t else if t / 1073741824 = 2 then -cosQ t else sinQ t

theorem rest_bd (t : Int) : -1152921504606846976 ≤ rest t ∧ rest t ≤ 1152921504606846976 := by unfold rest; omega

theorem bnd_bd (n : Int) : -4611686018427387903 ≤ bnd n ∧ bnd n ≤ 4611686018427387903 := by
  unfold bnd
  split
  · omega
  · split <;> omega

theorem rnd_bd (n : Int) : -4611686018427387903 ≤ rnd n ∧ rnd n ≤ 4611686018427387903 := by unfold rnd; exact bnd_bd _
theorem sinQ_bd (t : Int) : -4611686018427387903 ≤ sinQ t ∧ sinQ t ≤ 4611686018427387903 := by unfold sinQ; exact rnd_bd _
theorem cosQ_bd (t : Int) : -4611686018427387903 ≤ cosQ t ∧ cosQ t ≤ 4611686018427387903 := by unfold cosQ; exact rnd_bd _

/-- Two sizes moved down, and up. -/
def downF : Nat → Int → Int → Int × Int
  | 0, a, b => (a, b)
  | f + 1, a, b => if 1152921504606846976 ≤ a ∨ 1152921504606846976 ≤ b then downF f (a / 2) (b / 2) else (a, b)
def upF : Nat → Int → Int → Int × Int
  | 0, a, b => (a, b)
  | f + 1, a, b => if a < 576460752303423488 ∧ b < 576460752303423488 then upF f (a * 2) (b * 2) else (a, b)
def scaleF (a b : Int) : Int × Int := upF 60 (downF 2 a b).1 (downF 2 a b).2

def clampQ (n : Int) : Int := if n < 0 then 0 else if 1073741824 < n then 1073741824 else n
/-- The angle from the y axis of sizes. -/
def angF (a b : Int) : Int := clampQ (rnd (runY (scaleF a b).1 (scaleF a b).2 40).z)
theorem clampQ_bd (n : Int) : 0 ≤ clampQ n ∧ clampQ n ≤ 1073741824 := by
  unfold clampQ
  split
  · omega
  · split <;> omega
theorem angF_bd (a b : Int) : 0 ≤ angF a b ∧ angF a b ≤ 1073741824 := by unfold angF; exact clampQ_bd _
/-- The direction of a place. -/
def angT (x y : Int) : Int :=
  if 0 ≤ x ∧ 0 ≤ y then angF (y.natAbs : Int) (x.natAbs : Int)
  else if 0 ≤ x then 2147483648 - angF (y.natAbs : Int) (x.natAbs : Int)
  else if y < 0 then 2147483648 + angF (y.natAbs : Int) (x.natAbs : Int)
  else (4294967296 - angF (y.natAbs : Int) (x.natAbs : Int)) % 4294967296

/-- The root of a number, bit by bit. -/
def bitJ (j : Nat) : Int := 4611686018427387904 / 2 ^ j
def rtF (s : Int) : Nat → Int
  | 0 => 0
  | j + 1 => if (rtF s j + bitJ j) * (rtF s j + bitJ j) ≤ s then rtF s j + bitJ j else rtF s j
def far (x y : Int) : Int := if rtF (x * x + y * y) 63 < 4611686018427387903 then rtF (x * x + y * y) 63 else 4611686018427387903

theorem bitJ_succ (j : Nat) : bitJ (j + 1) = bitJ j / 2 := by
  unfold bitJ
  rw [Int.pow_succ, Int.ediv_ediv_of_nonneg (Int.le_of_lt (Int.pow_pos (by decide)))]
theorem bitJ_pow (j : Nat) (h : j ≤ 62) : bitJ j = 2 ^ (62 - j) := by
  unfold bitJ
  have e : (4611686018427387904 : Int) = 2 ^ (62 - j) * 2 ^ j := by
    rw [← Int.pow_add, show 62 - j + j = 62 by omega]; decide
  rw [e, Int.mul_ediv_cancel]
  exact Int.ne_of_gt (Int.pow_pos (by decide))
theorem rtF_ok (s : Int) (hs : 0 ≤ s) (h2 : s < 85070591730234615865843651857942052864) : ∀ j, j ≤ 63 → 0 ≤ rtF s j ∧ rtF s j * rtF s j ≤ s ∧ s < (rtF s j + 2 ^ (63 - j)) * (rtF s j + 2 ^ (63 - j)) ∧ rtF s j % 2 ^ (63 - j) = 0 ∧ rtF s j + 2 ^ (63 - j) ≤ 9223372036854775808
  | 0, _ => by
    simp only [rtF]
    refine ⟨by decide, by omega, ?_, by decide, by decide⟩
    have : ((0 : Int) + 2 ^ (63 - 0)) * (0 + 2 ^ (63 - 0)) = 85070591730234615865843651857942052864 := by decide
    omega
  | j + 1, hj => by
    obtain ⟨a, b, c, d, e⟩ := rtF_ok s hs h2 j (by omega)
    have hb := bitJ_pow j (by omega)
    have e1 : 63 - (j + 1) = 62 - j := by omega
    have e2 : (2 : Int) ^ (63 - j) = 2 ^ (62 - j) * 2 := by
      rw [show 63 - j = (62 - j) + 1 by omega, Int.pow_succ]
    have hp : (0 : Int) < 2 ^ (62 - j) := Int.pow_pos (by decide)
    have d2 : rtF s j % 2 ^ (62 - j) = 0 := by
      have : (2 : Int) ^ (62 - j) ∣ rtF s j := Int.dvd_trans ⟨2, e2⟩ (Int.dvd_of_emod_eq_zero d)
      exact Int.emod_eq_zero_of_dvd this
    rw [e2] at c e
    simp only [rtF]
    rw [e1, hb]
    generalize (2 : Int) ^ (62 - j) = p at *
    generalize rtF s j = r at *
    split
    · refine ⟨by omega, by assumption, ?_, ?_, by omega⟩
      · rw [show r + p + p = r + p * 2 by omega]; exact c
      · rw [Int.add_emod, d2, Int.emod_self]; simp
    · refine ⟨a, b, by omega, d2, by omega⟩

theorem far_is (s : Int) (hs : 0 ≤ s) (h2 : s < 85070591730234615865843651857942052864) : 0 ≤ rtF s 63 ∧ rtF s 63 * rtF s 63 ≤ s ∧ s < (rtF s 63 + 1) * (rtF s 63 + 1) ∧ rtF s 63 ≤ 9223372036854775807 := by
  obtain ⟨a, b, c, d, e⟩ := rtF_ok s hs h2 63 (Nat.le_refl _)
  have e1 : (2 : Int) ^ (63 - 63) = 1 := by decide
  rw [e1] at c e
  exact ⟨a, b, c, by omega⟩

theorem downF_yes (f : Nat) (a b : Int) (h : 1152921504606846976 ≤ a ∨ 1152921504606846976 ≤ b) : downF (f + 1) a b = downF f (a / 2) (b / 2) := by
  simp only [downF]; rw [if_pos h]
theorem downF_no (f : Nat) (a b : Int) (h : ¬ (1152921504606846976 ≤ a ∨ 1152921504606846976 ≤ b)) : downF f a b = (a, b) := by
  cases f with
  | zero => rfl
  | succ f => simp only [downF]; rw [if_neg h]
theorem upF_yes (f : Nat) (a b : Int) (h : a < 576460752303423488 ∧ b < 576460752303423488) : upF (f + 1) a b = upF f (a * 2) (b * 2) := by
  simp only [upF]; rw [if_pos h]
theorem upF_no (f : Nat) (a b : Int) (h : ¬ (a < 576460752303423488 ∧ b < 576460752303423488)) : upF f a b = (a, b) := by
  cases f with
  | zero => rfl
  | succ f => simp only [upF]; rw [if_neg h]

/-- Where moving down stands: so many rounds are left at most. -/
def DownAt (D : Int × Int) (f : Nat) (a b : Int) : Prop := downF f a b = D ∧ 0 ≤ a ∧ 0 ≤ b ∧ (1 ≤ a ∨ 1 ≤ b) ∧ a < 1152921504606846976 * 2 ^ f ∧ b < 1152921504606846976 * 2 ^ f
theorem DownAt.step {D : Int × Int} {f : Nat} {a b : Int} (h : DownAt D f a b) (c : 1152921504606846976 ≤ a ∨ 1152921504606846976 ≤ b) : ∃ g, f = g + 1 ∧ DownAt D g (a / 2) (b / 2) := by
  obtain ⟨e, a0, b0, n, al, bl⟩ := h
  cases f with
  | zero => simp at al bl; omega
  | succ g =>
    have p : (2 : Int) ^ (g + 1) = 2 ^ g * 2 := Int.pow_succ _ _
    rw [p] at al bl
    exact ⟨g, rfl, by rw [← e, downF_yes _ _ _ c], by omega, by omega, by omega, by omega, by omega⟩
theorem DownAt.stop {D : Int × Int} {f : Nat} {a b : Int} (h : DownAt D f a b) (c : ¬ (1152921504606846976 ≤ a ∨ 1152921504606846976 ≤ b)) : D = (a, b) := by
  rw [← h.1, downF_no _ _ _ c]
def UpAt (D : Int × Int) (f : Nat) (a b : Int) : Prop := upF f a b = D ∧ 0 ≤ a ∧ 0 ≤ b ∧ a < 1152921504606846976 ∧ b < 1152921504606846976 ∧ (576460752303423488 ≤ a * 2 ^ f ∨ 576460752303423488 ≤ b * 2 ^ f)
theorem UpAt.step {D : Int × Int} {f : Nat} {a b : Int} (h : UpAt D f a b) (c : a < 576460752303423488 ∧ b < 576460752303423488) : ∃ g, f = g + 1 ∧ UpAt D g (a * 2) (b * 2) := by
  obtain ⟨e, a0, b0, al, bl, n⟩ := h
  cases f with
  | zero => simp at n; omega
  | succ g =>
    have p : (2 : Int) ^ (g + 1) = 2 ^ g * 2 := Int.pow_succ _ _
    refine ⟨g, rfl, by rw [← e, upF_yes _ _ _ c], by omega, by omega, by omega, by omega, ?_⟩
    rw [p] at n
    rw [Int.mul_assoc, Int.mul_assoc, Int.mul_comm 2 (2 ^ g)]
    exact n
theorem UpAt.stop {D : Int × Int} {f : Nat} {a b : Int} (h : UpAt D f a b) (c : ¬ (a < 576460752303423488 ∧ b < 576460752303423488)) : D = (a, b) := by
  rw [← h.1, upF_no _ _ _ c]
theorem down_start (a b : Int) (ha : 0 ≤ a ∧ a ≤ 4611686018427387903) (hb : 0 ≤ b ∧ b ≤ 4611686018427387903) (n : 1 ≤ a ∨ 1 ≤ b) : DownAt (downF 2 a b) 2 a b :=
  ⟨rfl, ha.1, hb.1, n, by omega, by omega⟩
theorem up_start {a b : Int} {D : Int × Int} {f : Nat} (x y : Int) (hD : D = downF 2 x y) (h : DownAt D f a b) (c : ¬ (1152921504606846976 ≤ a ∨ 1152921504606846976 ≤ b)) : UpAt (scaleF x y) 60 a b := by
  have e := h.stop c
  obtain ⟨_, a0, b0, n, al, bl⟩ := h
  refine ⟨by unfold scaleF; rw [← hD, e], a0, b0, by omega, by omega, ?_⟩
  have p : (2 : Int) ^ 60 = 1152921504606846976 := by decide
  rw [p]
  omega

theorem DownAt.fin {D : Int × Int} : ∀ (f : Nat) (a b : Int), DownAt D f a b → ∃ g, DownAt D g D.1 D.2 ∧ ¬ (1152921504606846976 ≤ D.1 ∨ 1152921504606846976 ≤ D.2)
  | 0, a, b, h => by
    have c : ¬ (1152921504606846976 ≤ a ∨ 1152921504606846976 ≤ b) := by
      have := h.2.2.2.2
      simp at this
      omega
    have e := h.stop c
    refine ⟨0, ?_, ?_⟩
    · rw [e] at h ⊢; exact h
    · rw [e]; exact c
  | f + 1, a, b, h => by
    by_cases c : 1152921504606846976 ≤ a ∨ 1152921504606846976 ≤ b
    · obtain ⟨g, hg, h2⟩ := h.step c
      obtain rfl : f = g := by omega
      exact DownAt.fin f _ _ h2
    · have e := h.stop c
      refine ⟨f + 1, ?_, ?_⟩
      · rw [e] at h ⊢; exact h
      · rw [e]; exact c
theorem UpAt.fin {D : Int × Int} : ∀ (f : Nat) (a b : Int), UpAt D f a b → 0 ≤ D.1 ∧ 0 ≤ D.2 ∧ D.1 < 1152921504606846976 ∧ D.2 < 1152921504606846976 ∧ ¬ (D.1 < 576460752303423488 ∧ D.2 < 576460752303423488)
  | 0, a, b, h => by
    have c : ¬ (a < 576460752303423488 ∧ b < 576460752303423488) := by
      have := h.2.2.2.2.2
      simp at this
      omega
    have e := h.stop c
    obtain ⟨_, a0, b0, a1, b1, _⟩ := h
    rw [e]
    exact ⟨a0, b0, a1, b1, c⟩
  | f + 1, a, b, h => by
    by_cases c : a < 576460752303423488 ∧ b < 576460752303423488
    · obtain ⟨g, hg, h2⟩ := h.step c
      obtain rfl : f = g := by omega
      exact UpAt.fin f _ _ h2
    · have e := h.stop c
      obtain ⟨_, a0, b0, a1, b1, _⟩ := h
      rw [e]
      exact ⟨a0, b0, a1, b1, c⟩
theorem scaleF_bd (x y : Int) (hx : 0 ≤ x ∧ x ≤ 4611686018427387903) (hy : 0 ≤ y ∧ y ≤ 4611686018427387903) (n : 1 ≤ x ∨ 1 ≤ y) :
    0 ≤ (scaleF x y).1 ∧ 0 ≤ (scaleF x y).2 ∧ (scaleF x y).1 < 1152921504606846976 ∧ (scaleF x y).2 < 1152921504606846976 ∧ ¬ ((scaleF x y).1 < 576460752303423488 ∧ (scaleF x y).2 < 576460752303423488) := by
  obtain ⟨g, h, c⟩ := DownAt.fin _ _ _ (down_start x y hx hy n)
  exact UpAt.fin _ _ _ (up_start x y rfl h c)

end Go.Proofs.Ythopiolbnhjgnaa
