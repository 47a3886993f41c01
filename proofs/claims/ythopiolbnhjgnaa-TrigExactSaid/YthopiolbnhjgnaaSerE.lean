/- Plain numbers: the reference's rows, cut at each term. -/
import Derived.Test.YthopiolbnhjgnaaSerD
namespace Go.Proofs.Ythopiolbnhjgnaa

def tenM : Int := 1000000000000000000000000000000
/-- The terms of the rows, cut. -/
def tm (A : Int) : Nat → Int
  | 0 => 1000000000000000000000000000000
  | n + 1 => tm A n * A / (1000000000000000000000000000000 * ((n : Int) + 1))
def cI (A : Int) : Nat → Int
  | 0 => 0
  | n + 1 => if n % 4 = 0 then cI A n + tm A n else if n % 4 = 2 then cI A n - tm A n else cI A n
def sI (A : Int) : Nat → Int
  | 0 => 0
  | n + 1 => if n % 4 = 1 then sI A n + tm A n else if n % 4 = 3 then sI A n - tm A n else sI A n
/-- How far a term may be off. -/
def er : Nat → Rat
  | 0 => 0
  | n + 1 => er n * 7 / ((n : Rat) + 1) + 1
theorem er_nn : ∀ n, 0 ≤ er n
  | 0 => by simp only [er]; decide +kernel
  | n + 1 => by
    have h := er_nn n
    have h2 := nat_pos n
    have h3 := rdiv_le (show 0 ≤ er n * 7 by grind) h2
    rw [Rat.div_def, Rat.zero_mul] at h3
    simp only [er]
    grind
theorem tm_nn (A : Int) (hA : 0 ≤ A) : ∀ n, 0 ≤ tm A n
  | 0 => by simp only [tm]; decide
  | n + 1 => by
    simp only [tm]
    apply Int.ediv_nonneg
    · exact Int.mul_nonneg (tm_nn A hA n) hA
    · omega
theorem floor_rat (y d : Int) (hd : 0 < d) : ∃ r : Rat, ((y / d : Int) : Rat) = (y : Rat) / (d : Rat) - r ∧ 0 ≤ r ∧ r ≤ 1 := by
  have e := Int.mul_ediv_add_emod y d
  have l0 := Int.emod_nonneg y (Int.ne_of_gt hd)
  have l1 := Int.emod_lt_of_pos y hd
  generalize y / d = q at *
  generalize y % d = m at *
  have hq : (0 : Rat) < (d : Rat) := by
    have : ((0 : Int) : Rat) < (d : Rat) := Rat.intCast_lt_intCast.2 hd
    simpa using this
  have e2 : (y : Rat) = (d : Rat) * (q : Rat) + (m : Rat) := by
    rw [← e]; simp
  have m0 : (0 : Rat) ≤ (m : Rat) := by exact_mod_cast l0
  have m1 : (m : Rat) ≤ (d : Rat) := Rat.intCast_le_intCast.2 (by omega)
  have hne : (d : Rat) ≠ 0 := Rat.ne_of_gt hq
  refine ⟨(m : Rat) / (d : Rat), ?_, ?_, ?_⟩
  · rw [e2]
    generalize (d : Rat) = p at *
    grind
  · have := rdiv_le m0 hq
    rw [Rat.div_def, Rat.zero_mul] at this
    exact this
  · have := rdiv_le m1 hq
    generalize (d : Rat) = p at *
    have h : p / p = 1 := by grind
    rw [h] at this
    exact this
theorem tm_near (A : Int) (h0 : 0 ≤ A) (h1 : A ≤ 7000000000000000000000000000000) : ∀ n, Ab ((tm A n : Rat) - 1000000000000000000000000000000 * pw ((A : Rat) / 1000000000000000000000000000000) n) (er n)
  | 0 => by
    unfold Ab
    simp only [tm, pw, er]
    decide +kernel
  | n + 1 => by
    have ih := tm_near A h0 h1 n
    obtain ⟨r, hr, r0, r1⟩ := floor_rat (tm A n * A) (1000000000000000000000000000000 * ((n : Int) + 1)) (by omega)
    have a0 : (0 : Rat) ≤ (A : Rat) := by exact_mod_cast h0
    have a1 : (A : Rat) ≤ ((7000000000000000000000000000000 : Int) : Rat) := Rat.intCast_le_intCast.2 h1
    have k1 : ((7000000000000000000000000000000 : Int) : Rat) = 7000000000000000000000000000000 := rfl
    have k2 : ((1000000000000000000000000000000 : Int) : Rat) = 1000000000000000000000000000000 := rfl
    have k3 : (((n : Int) + 1 : Int) : Rat) = (n : Rat) + 1 := by rw [Rat.intCast_add]; rfl
    rw [k1] at a1
    rw [Rat.intCast_mul, Rat.intCast_mul, k2, k3] at hr
    have hn := nat_pos n
    simp only [tm, pw, er]
    rw [hr]
    have ha : Ab ((A : Rat) / 1000000000000000000000000000000) 7 := by unfold Ab; constructor <;> grind
    have m1 := (ih.mul ha).div hn
    generalize (tm A n : Rat) = T at *
    generalize pw ((A : Rat) / 1000000000000000000000000000000) n = p at *
    generalize (n : Rat) + 1 = N at *
    generalize er n = e at *
    have hN : N ≠ 0 := Rat.ne_of_gt hn
    have e1 : T * (A : Rat) / (1000000000000000000000000000000 * N) - r - 1000000000000000000000000000000 * (p * ((A : Rat) / 1000000000000000000000000000000) / N) = (T - 1000000000000000000000000000000 * p) * ((A : Rat) / 1000000000000000000000000000000) / N - r := by
      grind
    rw [e1]
    unfold Ab at *
    constructor <;> grind

theorem cg4 (r : Nat) : ∀ k, cg (4 * k + r) = cg r ∧ sg (4 * k + r) = sg r
  | 0 => by simp
  | k + 1 => by
    obtain ⟨a, b⟩ := cg4 r k
    have e1 : cg (4 * k + r + 2 + 2) = -cg (4 * k + r + 2) := rfl
    have e2 : cg (4 * k + r + 2) = -cg (4 * k + r) := rfl
    have e3 : sg (4 * k + r + 2 + 2) = -sg (4 * k + r + 2) := rfl
    have e4 : sg (4 * k + r + 2) = -sg (4 * k + r) := rfl
    rw [show 4 * (k + 1) + r = 4 * k + r + 2 + 2 by omega, e1, e2, e3, e4, a, b]
    simp
theorem cg_mod (n : Nat) : cg n = cg (n % 4) ∧ sg n = sg (n % 4) := by
  have h := cg4 (n % 4) (n / 4)
  rw [show 4 * (n / 4) + n % 4 = n by omega] at h
  exact h
theorem cI_sum (A : Int) : ∀ n, (cI A n : Rat) = sm (fun i => cg i * (tm A i : Rat)) n
  | 0 => by simp [cI, sm]
  | n + 1 => by
    have ih := cI_sum A n
    have h := (cg_mod n).1
    simp only [cI, sm]
    rw [← ih, h]
    rcases (show n % 4 = 0 ∨ n % 4 = 1 ∨ n % 4 = 2 ∨ n % 4 = 3 by omega) with e | e | e | e <;> rw [e] <;> simp [cg] <;> grind
theorem sI_sum (A : Int) : ∀ n, (sI A n : Rat) = sm (fun i => sg i * (tm A i : Rat)) n
  | 0 => by simp [sI, sm]
  | n + 1 => by
    have ih := sI_sum A n
    have h := (cg_mod n).2
    simp only [sI, sm]
    rw [← ih, h]
    rcases (show n % 4 = 0 ∨ n % 4 = 1 ∨ n % 4 = 2 ∨ n % 4 = 3 by omega) with e | e | e | e <;> rw [e] <;> simp [sg] <;> grind
theorem er60 : sm er 60 ≤ 1000000 := by decide +kernel
theorem rows_near (A : Int) (h0 : 0 ≤ A) (h1 : A ≤ 7000000000000000000000000000000) :
    Ab ((cI A 60 : Rat) - 1000000000000000000000000000000 * co 60 ((A : Rat) / 1000000000000000000000000000000)) 1000000 ∧
    Ab ((sI A 60 : Rat) - 1000000000000000000000000000000 * si 60 ((A : Rat) / 1000000000000000000000000000000)) 1000000 := by
  rw [cI_sum, sI_sum]
  unfold co si
  rw [← sm_mul, ← sm_mul, ← sm_sub, ← sm_sub]
  constructor
  · refine (sm_ab 60 (g := er) fun i _ => ?_).mono er60
    have h := (cg_ab i).mul (tm_near A h0 h1 i)
    rw [one_mul'] at h
    have e : cg i * (tm A i : Rat) - 1000000000000000000000000000000 * (cg i * pw ((A : Rat) / 1000000000000000000000000000000) i) = cg i * ((tm A i : Rat) - 1000000000000000000000000000000 * pw ((A : Rat) / 1000000000000000000000000000000) i) := by grind
    rw [e]
    exact h
  · refine (sm_ab 60 (g := er) fun i _ => ?_).mono er60
    have h := (sg_ab i).mul (tm_near A h0 h1 i)
    rw [one_mul'] at h
    have e : sg i * (tm A i : Rat) - 1000000000000000000000000000000 * (sg i * pw ((A : Rat) / 1000000000000000000000000000000) i) = sg i * ((tm A i : Rat) - 1000000000000000000000000000000 * pw ((A : Rat) / 1000000000000000000000000000000) i) := by grind
    rw [e]
    exact h
theorem angI_bd (t : Int) (h0 : 0 ≤ t) (h1 : t ≤ 4294967295) : 0 ≤ angI t ∧ angI t ≤ 7000000000000000000000000000000 := by
  unfold angI; omega
theorem near_end (n e : Int) (x : Rat) (hn : Ab ((n : Rat) - 1073741824 * x) 3) (he : Ab ((e : Rat) - 1000000000000000000000000000000 * x) 1000000) :
    -4000000000000000000000000000000 ≤ n * 1000000000000000000000000000000 - e * 1073741824 ∧ n * 1000000000000000000000000000000 - e * 1073741824 ≤ 4000000000000000000000000000000 := by
  unfold Ab at *
  constructor
  · apply Rat.intCast_le_intCast.1
    rw [Rat.intCast_sub, Rat.intCast_mul, Rat.intCast_mul]
    have k1 : ((1073741824 : Int) : Rat) = 1073741824 := rfl
    have k2 : ((1000000000000000000000000000000 : Int) : Rat) = 1000000000000000000000000000000 := rfl
    have k3 : ((-4000000000000000000000000000000 : Int) : Rat) = -4000000000000000000000000000000 := rfl
    rw [k1, k2, k3]
    grind
  · apply Rat.intCast_le_intCast.1
    rw [Rat.intCast_sub, Rat.intCast_mul, Rat.intCast_mul]
    have k1 : ((1073741824 : Int) : Rat) = 1073741824 := rfl
    have k2 : ((1000000000000000000000000000000 : Int) : Rat) = 1000000000000000000000000000000 := rfl
    have k3 : ((4000000000000000000000000000000 : Int) : Rat) = 4000000000000000000000000000000 := rfl
    rw [k1, k2, k3]
    grind
/-- The law of TrigExact, of numbers alone. -/
theorem exact_near (t : Int) (h0 : 0 ≤ t) (h1 : t ≤ 4294967295) :
    (-4000000000000000000000000000000 ≤ sinT t * 1000000000000000000000000000000 - sI (angI t) 60 * 1073741824 ∧ sinT t * 1000000000000000000000000000000 - sI (angI t) 60 * 1073741824 ≤ 4000000000000000000000000000000) ∧
    (-4000000000000000000000000000000 ≤ cosT t * 1000000000000000000000000000000 - cI (angI t) 60 * 1073741824 ∧ cosT t * 1000000000000000000000000000000 - cI (angI t) 60 * 1073741824 ≤ 4000000000000000000000000000000) := by
  obtain ⟨a, b⟩ := turn_near t h0 h1
  obtain ⟨A0, A1⟩ := angI_bd t h0 h1
  obtain ⟨c, d⟩ := rows_near (angI t) A0 A1
  unfold angR at a b
  exact ⟨near_end _ _ _ a d, near_end _ _ _ b c⟩
end Go.Proofs.Ythopiolbnhjgnaa
