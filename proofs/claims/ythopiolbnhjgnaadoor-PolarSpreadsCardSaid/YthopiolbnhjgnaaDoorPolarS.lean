/- Plain numbers of a plot as a place: the spreads together, and further away. -/
import Derived.Test.YthopiolbnhjgnaaDoorPolarM
set_option linter.unusedVariables false
namespace Go.Proofs.YthopiolbnhjgnaaDoor

theorem rq30_near (n : Int) : -536870912 ≤ n - 1073741824 * rq n (2 ^ 30) ∧ n - 1073741824 * rq n (2 ^ 30) ≤ 536870912 := by
  rw [p30]
  unfold rq
  split <;> omega
theorem rq30_mono {m n : Int} (h : m ≤ n) : rq m (2 ^ 30) ≤ rq n (2 ^ 30) := by
  rw [p30]
  unfold rq
  split <;> split <;> omega
theorem rq20_mono {m n : Int} (h : m ≤ n) : rq m (2 ^ 20) ≤ rq n (2 ^ 20) := by
  rw [p20]
  unfold rq
  split <;> split <;> omega
theorem rq30_0 : rq 0 (2 ^ 30) = 0 := by decide
theorem rq20_0 : rq 0 (2 ^ 20) = 0 := by decide
theorem bnd_mono {m n : Int} (h : m ≤ n) : bnd m ≤ bnd n := by
  unfold bnd
  split <;> split <;> (try split) <;> (try split) <;> omega
theorem bnd_of (n : Int) (h : ovr n = false) : bnd n = n := by
  unfold ovr at h
  have := of_decide_eq_false h
  unfold bnd
  rw [if_neg (by omega), if_neg (by omega)]
theorem bnd_nn {n : Int} (h : 0 ≤ n) : 0 ≤ bnd n := by
  unfold bnd
  split
  · omega
  · split <;> omega
theorem m30_mono {a b c d : Int} (h : a * b ≤ c * d) : m30 a b ≤ m30 c d := bnd_mono (rq30_mono h)
theorem m20_mono {a b c d : Int} (h : a * b ≤ c * d) : m20 a b ≤ m20 c d := bnd_mono (rq20_mono h)
theorem m30_nn' {a b : Int} (h : 0 ≤ a * b) : 0 ≤ m30 a b := by
  have := rq30_mono h
  rw [rq30_0] at this
  exact bnd_nn this
theorem m20_nn {a b : Int} (h : 0 ≤ a * b) : 0 ≤ m20 a b := by
  have := rq20_mono h
  rw [rq20_0] at this
  exact bnd_nn this
theorem d30_nn {a b x y : Int} (h : 0 ≤ a * x + b * y) : 0 ≤ d30 a b x y := by
  have := rq30_mono h
  rw [rq30_0] at this
  exact bnd_nn this
theorem sqr_nn (a : Int) : 0 ≤ a * a := by rw [← Int.natAbs_mul_self]; omega
theorem along_nn (R : Int) : 0 ≤ alongF R := m20_nn (sqr_nn R)
theorem across_nn (T far : Int) : 0 ≤ acrossF T far := m20_nn (sqr_nn _)
/-- A range that is greater is never spread less across. -/
theorem across_mono (T far more : Int) (hT : 0 ≤ T) (h0 : 0 ≤ far) (h : far ≤ more) : acrossF T far ≤ acrossF T more := by
  have h1 : far * T ≤ more * T := Int.mul_le_mul_of_nonneg_right h hT
  have h2 : farF T far ≤ farF T more := m30_mono h1
  have h3 : 0 ≤ farF T far := m30_nn' (Int.mul_nonneg h0 hT)
  unfold acrossF
  apply m20_mono
  exact Int.mul_le_mul h2 h2 h3 (Int.le_trans h3 h2)
theorem ss_cc (t : Int) : 0 ≤ ssF t ∧ 0 ≤ ccF t ∧ 1073741824 - 9 ≤ ssF t + ccF t ∧ ssF t + ccF t ≤ 1073741824 + 9 := by
  obtain ⟨q0, q1⟩ := turn_sq t
  have s0 := sqr_nn (sinT t)
  have c0 := sqr_nn (cosT t)
  have a := rq30_near (sinT t * sinT t)
  have b := rq30_near (cosT t * cosT t)
  have e1 : ssF t = rq (sinT t * sinT t) (2 ^ 30) := bnd_of _ (by unfold ovr; rw [decide_eq_false]; omega)
  have e2 : ccF t = rq (cosT t * cosT t) (2 ^ 30) := bnd_of _ (by unfold ovr; rw [decide_eq_false]; omega)
  have n1 : 0 ≤ ssF t := m30_nn' s0
  have n2 : 0 ≤ ccF t := m30_nn' c0
  rw [e1, e2] at *
  omega
theorem or_false_l {a b : Bool} (h : (a || b) = false) : a = false ∧ b = false := by cases a <;> cases b <;> simp_all
/-- The spreads together. -/
theorem spreads_law (R T t far : Int) (ho : ofOver R T t far = false) :
    0 ≤ xxF R T t far ∧ 0 ≤ yyF R T t far ∧
    xxF R T t far + yyF R T t far - alongF R - acrossF T far ≤ alongF R / 1000000 + acrossF T far / 1000000 + 16 ∧
    -(alongF R / 1000000 + acrossF T far / 1000000 + 16) ≤ xxF R T t far + yyF R T t far - alongF R - acrossF T far := by
  obtain ⟨n1, n2, q0, q1⟩ := ss_cc t
  have A0 := along_nn R
  have B0 := across_nn T far
  unfold ofOver at ho
  obtain ⟨ho, _⟩ := or_false_l ho
  obtain ⟨ho, h2⟩ := or_false_l ho
  obtain ⟨ho, h1⟩ := or_false_l ho
  have e1 : xxF R T t far = rq (alongF R * ssF t + acrossF T far * ccF t) (2 ^ 30) := bnd_of _ h1
  have e2 : yyF R T t far = rq (alongF R * ccF t + acrossF T far * ssF t) (2 ^ 30) := bnd_of _ h2
  have x0 : 0 ≤ xxF R T t far := d30_nn (Int.add_nonneg (Int.mul_nonneg A0 n1) (Int.mul_nonneg B0 n2))
  have y0 : 0 ≤ yyF R T t far := d30_nn (Int.add_nonneg (Int.mul_nonneg A0 n2) (Int.mul_nonneg B0 n1))
  have a := rq30_near (alongF R * ssF t + acrossF T far * ccF t)
  have b := rq30_near (alongF R * ccF t + acrossF T far * ssF t)
  rw [← e1] at a
  rw [← e2] at b
  generalize alongF R = A at *
  generalize acrossF T far = B at *
  generalize ssF t = s at *
  generalize ccF t = c at *
  generalize xxF R T t far = X at *
  generalize yyF R T t far = Y at *
  have k1 : (A + B) * (1073741824 - 9) ≤ (A + B) * (s + c) := Int.mul_le_mul_of_nonneg_left q0 (by omega)
  have k2 : (A + B) * (s + c) ≤ (A + B) * (1073741824 + 9) := Int.mul_le_mul_of_nonneg_left q1 (by omega)
  have k3 : (A + B) * (s + c) = (A * s + B * c) + (A * c + B * s) := by grind
  rw [k3] at k1 k2
  refine ⟨x0, y0, ?_, ?_⟩ <;> omega
end Go.Proofs.YthopiolbnhjgnaaDoor
