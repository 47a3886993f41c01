/- Plain numbers of a plot as a place: a quarter of a turn further; the spreads together. -/
import Derived.Test.YthopiolbnhjgnaaDoorNorm
set_option linter.unusedVariables false
namespace Go.Proofs.YthopiolbnhjgnaaDoor

theorem p30 : (2 : Int) ^ 30 = 1073741824 := by decide
theorem p20 : (2 : Int) ^ 20 = 1048576 := by decide
theorem rq30_neg (n : Int) : rq (-n) (2 ^ 30) = -rq n (2 ^ 30) := by
  rw [p30]
  unfold rq
  split <;> split <;> omega
theorem bnd_neg (n : Int) : bnd (-n) = -bnd n := by
  unfold bnd
  split <;> split <;> (try split) <;> (try split) <;> omega
theorem ovr_neg (n : Int) : ovr (-n) = ovr n := by
  unfold ovr
  by_cases h : n < -4611686018427387903 ∨ n > 4611686018427387903
  · rw [decide_eq_true h, decide_eq_true (by omega)]
  · rw [decide_eq_false h, decide_eq_false (by omega)]

/-- A product, a sum of two products, with thirty bits. -/
def m30 (a b : Int) : Int := bnd (rq (a * b) (2 ^ 30))
def o30 (a b : Int) : Bool := ovr (rq (a * b) (2 ^ 30))
def m20 (a b : Int) : Int := bnd (rq (a * b) (2 ^ 20))
def o20 (a b : Int) : Bool := ovr (rq (a * b) (2 ^ 20))
def d30 (a b x y : Int) : Int := bnd (rq (a * x + b * y) (2 ^ 30))
def e30 (a b x y : Int) : Bool := ovr (rq (a * x + b * y) (2 ^ 30))
theorem m30_bd (a b : Int) : -4611686018427387903 ≤ m30 a b ∧ m30 a b ≤ 4611686018427387903 := bnd_bd _
theorem m20_bd (a b : Int) : -4611686018427387903 ≤ m20 a b ∧ m20 a b ≤ 4611686018427387903 := bnd_bd _
theorem d30_bd (a b x y : Int) : -4611686018427387903 ≤ d30 a b x y ∧ d30 a b x y ≤ 4611686018427387903 := bnd_bd _

/-- How exact a place is, along and across; whether anything was too great. -/
def alongF (R : Int) : Int := m20 R R
def farF (T far : Int) : Int := m30 far T
def acrossF (T far : Int) : Int := m20 (farF T far) (farF T far)
def spOver (R T far : Int) : Bool := o20 R R || o30 far T || o20 (farF T far) (farF T far)

def ssF (t : Int) : Int := m30 (sinT t) (sinT t)
def ccF (t : Int) : Int := m30 (cosT t) (cosT t)
def scF (t : Int) : Int := m30 (sinT t) (cosT t)
def xxF (R T t far : Int) : Int := d30 (alongF R) (acrossF T far) (ssF t) (ccF t)
def yyF (R T t far : Int) : Int := d30 (alongF R) (acrossF T far) (ccF t) (ssF t)
def xyF (R T t far : Int) : Int := d30 (alongF R) (acrossF T far) (scF t) (-scF t)
def ofOver (R T t far : Int) : Bool :=
  spOver R T far || o30 (sinT t) (sinT t) || o30 (cosT t) (cosT t) || o30 (sinT t) (cosT t) ||
  e30 (alongF R) (acrossF T far) (ssF t) (ccF t) || e30 (alongF R) (acrossF T far) (ccF t) (ssF t) || e30 (alongF R) (acrossF T far) (scF t) (-scF t)
def pxF (t far : Int) : Int := m30 far (sinT t)
def pyF (t far : Int) : Int := m30 far (cosT t)

theorem quarter_rest (t : Int) (h0 : 0 ≤ t) (h1 : t ≤ 4294967295) : rest ((t + 1073741824) % 4294967296) = rest t := by unfold rest; omega
theorem quarter_sin (t : Int) (h0 : 0 ≤ t) (h1 : t ≤ 4294967295) : sinT ((t + 1073741824) % 4294967296) = cosT t := by
  have e := quarter_rest t h0 h1
  unfold sinT cosT sinQ cosQ
  rw [e]
  (repeat' split) <;> omega
theorem quarter_cos (t : Int) (h0 : 0 ≤ t) (h1 : t ≤ 4294967295) : cosT ((t + 1073741824) % 4294967296) = -sinT t := by
  have e := quarter_rest t h0 h1
  unfold sinT cosT sinQ cosQ
  rw [e]
  (repeat' split) <;> omega

theorem m30_negr (a b : Int) : m30 a (-b) = -m30 a b := by
  unfold m30
  rw [Int.mul_neg, rq30_neg, bnd_neg]
theorem m30_nn (a b : Int) : m30 (-a) (-b) = m30 a b := by
  unfold m30
  rw [Int.neg_mul_neg]
theorem o30_nn (a b : Int) : o30 (-a) (-b) = o30 a b := by
  unfold o30
  rw [Int.neg_mul_neg]
theorem m30_comm (a b : Int) : m30 a b = m30 b a := by
  unfold m30
  rw [Int.mul_comm]

/-- A quarter of a turn further: the place. -/
theorem quarter_all (R T t far : Int) (h0 : 0 ≤ t) (h1 : t ≤ 4294967295) :
    pxF ((t + 1073741824) % 4294967296) far = pyF t far ∧ pyF ((t + 1073741824) % 4294967296) far = -pxF t far ∧
    xxF R T ((t + 1073741824) % 4294967296) far = yyF R T t far ∧ yyF R T ((t + 1073741824) % 4294967296) far = xxF R T t far ∧
    xyF R T ((t + 1073741824) % 4294967296) far = -xyF R T t far := by
  unfold pxF pyF xxF yyF xyF ssF ccF scF
  rw [quarter_sin t h0 h1, quarter_cos t h0 h1, m30_nn, m30_negr, m30_negr, m30_comm (cosT t) (sinT t), Int.neg_neg]
  refine ⟨rfl, rfl, rfl, rfl, ?_⟩
  unfold d30
  rw [← bnd_neg, ← rq30_neg]
  congr 2
  rw [Int.mul_neg, Int.mul_neg]
  omega
end Go.Proofs.YthopiolbnhjgnaaDoor
