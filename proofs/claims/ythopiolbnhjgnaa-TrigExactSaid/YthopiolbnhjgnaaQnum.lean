/- The number layer of the program: sums of three words, walked. -/
import Derived.Test.YthopiolbnhjgnaaLib
import Derived.Test.YthopiolbnhjgnaaNum
import Derived.Test.YthopiolbnhjgnaaShelf
set_option linter.unusedSimpArgs false
set_option linter.unusedVariables false
set_option maxRecDepth 20000
namespace Go.Proofs.Ythopiolbnhjgnaa
open Go.RowKit


theorem add64 (x y c : Int) (hx : 0 ≤ x) (hy : 0 ≤ y) (hc0 : 0 ≤ c) (hc : c ≤ 1) (w : World) :
    (callFunc 40 #[.int .u64 x, .int .u64 y, .int .u64 c]).run Try.prog w =
      .ok (.value (.tuple #[.int .u64 ((x + y + c) % 18446744073709551616), .int .u64 ((x + y + c) / 18446744073709551616)])) w := by
  rw [run_callFunc_extern Try.func40 (by kernel_rfl) (by kernel_rfl) (by kernel_rfl) (e := add64Entry) (by kernel_rfl), run_add64 x y c hx hy hc0 hc]
  rfl

theorem add64z (x y : Int) (hx : 0 ≤ x) (hy : 0 ≤ y) (w : World) :
    (callFunc 40 #[.int .u64 x, .int .u64 y, .int .u64 0]).run Try.prog w =
      .ok (.value (.tuple #[.int .u64 ((x + y) % 18446744073709551616), .int .u64 ((x + y) / 18446744073709551616)])) w := by
  rw [add64 x y 0 hx hy (Int.le_refl 0) (by decide), Int.add_zero]

set_option maxHeartbeats 1000000 in
theorem plus_raw (a0 a1 a2 b0 b1 b2 : Int) (w : World) (ha0 : 0 ≤ a0) (ha1 : 0 ≤ a1) (ha2 : 0 ≤ a2) (hb0 : 0 ≤ b0) (hb1 : 0 ≤ b1) (hb2 : 0 ≤ b2)
    (ga0 : a0 ≤ 18446744073709551615) (ga1 : a1 ≤ 18446744073709551615) (gb0 : b0 ≤ 18446744073709551615) (gb1 : b1 ≤ 18446744073709551615) :
    Calls Try.prog 47 #[.agg #[.int .u64 a0, .int .u64 a1, .int .u64 a2], .agg #[.int .u64 b0, .int .u64 b1, .int .u64 b2]] w fun e w' =>
      e = .returned (.agg #[.int .u64 ((a0 + b0) % 18446744073709551616), .int .u64 ((a1 + b1 + (a0 + b0) / 18446744073709551616) % 18446744073709551616),
        .int .u64 ((a2 + b2 + (a1 + b1 + (a0 + b0) / 18446744073709551616) / 18446744073709551616) % 18446744073709551616)]) ∧ Below w.heap.size w w' := by
  have hA := fun w => add64z a0 b0 ha0 hb0 w
  have hB := fun w => add64 a1 b1 ((a0 + b0) / 18446744073709551616) ha1 hb1 (by omega) (by omega) w
  have hC := fun w => add64 a2 b2 ((a1 + b1 + (a0 + b0) / 18446744073709551616) / 18446744073709551616) ha2 hb2 (by omega) (by omega) w
  go_enter Try.func47, Try.ntmps47
  go_wp2
  refine wp_loop_rounds 4 ?_
  rw [rounds_succ]
  go_wp2
  go_region
  go_wp2
  rw [rounds_succ]
  go_wp2
  go_region
  go_wp2
  rw [rounds_succ]
  go_wp2
  go_region
  go_wp2
  rw [rounds_succ]
  go_wp2
  exact bodyPost_ret (v := .agg #[.int .u64 ((a0 + b0) % 18446744073709551616), .int .u64 ((a1 + b1 + (a0 + b0) / 18446744073709551616) % 18446744073709551616),
        .int .u64 ((a2 + b2 + (a1 + b1 + (a0 + b0) / 18446744073709551616) / 18446744073709551616) % 18446744073709551616)]) (by simp [results, Try.results47, go_sem]) rfl ⟨rfl, (by repeat (first | with_reducible exact Below.refl _ _ | with_reducible refine Below.drew ?_ | with_reducible refine below_alloc ?_ _ | (with_reducible refine below_set ?_ ?_ _; rotate_left; (first | omega | (simp <;> omega))) | with_reducible refine below_drewN ?_ _ | with_reducible refine below_tr ?_ (by with_reducible assumption)))⟩

theorem plus_any (m n : Int) (w : World) :
    Calls Try.prog 47 #[.agg #[.int .u64 (W0 (m)), .int .u64 (W1 (m)), .int .u64 (W2 (m))], .agg #[.int .u64 (W0 (n)), .int .u64 (W1 (n)), .int .u64 (W2 (n))]] w fun e w' => e = .returned (.agg #[.int .u64 (W0 (m + n)), .int .u64 (W1 (m + n)), .int .u64 (W2 (m + n))]) ∧ Below w.heap.size w w' := by
  refine (plus_raw _ _ _ _ _ _ w (W0_lo m) (W1_lo m) (W2_lo m) (W0_lo n) (W1_lo n) (W2_lo n) (W0_hi m) (W1_hi m) (W0_hi n) (W1_hi n)).mono ?_
  rintro e w' ⟨he, hb⟩
  rw [W0_add, W1_add, W2_add] at he
  exact ⟨he, hb⟩

theorem plus_one (n : Int) (w : World) :
    Calls Try.prog 47 #[.agg #[.int .u64 (W0 (n)), .int .u64 (W1 (n)), .int .u64 (W2 (n))], .agg #[.int .u64 1, .int .u64 0, .int .u64 0]] w fun e w' => e = .returned (.agg #[.int .u64 (W0 (n + 1)), .int .u64 (W1 (n + 1)), .int .u64 (W2 (n + 1))]) ∧ Below w.heap.size w w' := by
  have h := plus_any n 1 w
  exact h

set_option maxRecDepth 20000 in
set_option maxHeartbeats 1000000 in
theorem neg_any (n : Int) (w : World) :
    Calls Try.prog 49 #[.agg #[.int .u64 (W0 (n)), .int .u64 (W1 (n)), .int .u64 (W2 (n))]] w fun e w' => e = .returned (.agg #[.int .u64 (W0 (-n)), .int .u64 (W1 (-n)), .int .u64 (W2 (-n))]) ∧ Below w.heap.size w w' := by
  have n0 := not64 (W0 n) (W0_lo n) (W0_hi n)
  have n1 := not64 (W1 n) (W1_lo n) (W1_hi n)
  have n2 := not64 (W2 n) (W2_lo n) (W2_hi n)
  have l0 := W0_lo n
  have l1 := W1_lo n
  have l2 := W2_lo n
  have g0 := W0_hi n
  have g1 := W1_hi n
  have g2 := W2_hi n
  have e0 := W0_neg n
  have e1 := W1_neg n
  have e2 := W2_neg n
  have hA := fun w => add64 (18446744073709551615 - W0 n) 0 1 (by omega) (by omega) (by omega) (by omega) w
  have hB := fun w => add64 (18446744073709551615 - W1 n) 0 ((18446744073709551615 - W0 n + 1) / 18446744073709551616) (by omega) (by omega) (by omega) (by omega) w
  have hC := fun w => add64 (18446744073709551615 - W2 n) 0 ((18446744073709551615 - W1 n + (18446744073709551615 - W0 n + 0 + 1) / 18446744073709551616) / 18446744073709551616) (by omega) (by omega) (by omega) (by omega) w
  simp only [Int.add_zero, e0] at hA
  simp only [Int.add_zero, e1] at hB
  simp only [Int.add_zero, e2] at hC
  clear e0 e1 e2
  go_enter Try.func49, Try.ntmps49
  go_wp2
  refine wp_loop_rounds 4 ?_
  rw [rounds_succ]
  go_wp2
  rw [rounds_succ]
  go_wp2
  rw [rounds_succ]
  go_wp2
  rw [rounds_succ]
  go_wp2
  exact bodyPost_ret (v := .agg #[.int .u64 (W0 (-n)), .int .u64 (W1 (-n)), .int .u64 (W2 (-n))]) (by simp [results, Try.results49, go_sem]) rfl ⟨rfl, (by repeat (first | with_reducible exact Below.refl _ _ | with_reducible refine Below.drew ?_ | with_reducible refine below_alloc ?_ _ | (with_reducible refine below_set ?_ ?_ _; rotate_left; (first | omega | (simp <;> omega))) | with_reducible refine below_drewN ?_ _ | with_reducible refine below_tr ?_ (by with_reducible assumption)))⟩

theorem below_any (n : Int) (w : World) (h0 : -3138550867693340381917894711603833208051177722232017256448 ≤ n) (h1 : n < 3138550867693340381917894711603833208051177722232017256448) :
    Calls Try.prog 50 #[.agg #[.int .u64 (W0 (n)), .int .u64 (W1 (n)), .int .u64 (W2 (n))]] w fun e w' => e = .returned (.bool (decide (n < 0))) ∧ Below w.heap.size w w' := by
  have l2 := W2_lo n
  have g2 := W2_hi n
  have hW := W2_below n h0 h1
  have HW := Lib.hid hW
  clear hW h0 h1
  go_enter Try.func50, Try.ntmps50
  go_wp2
  go_ret
  refine ⟨?_, (by repeat (first | with_reducible exact Below.refl _ _ | with_reducible refine Below.drew ?_ | with_reducible refine below_alloc ?_ _ | (with_reducible refine below_set ?_ ?_ _; rotate_left; (first | omega | (simp <;> omega))) | with_reducible refine below_drewN ?_ _ | with_reducible refine below_tr ?_ (by with_reducible assumption)))⟩
  rw [← HW.out]
  rfl

theorem of_any (a : Int) (w : World) (h0 : -9223372036854775808 ≤ a) (h1 : a ≤ 9223372036854775807) :
    Calls Try.prog 43 #[.int .i64 a] w fun e w' => e = .returned (.agg #[.int .u64 (W0 (a)), .int .u64 (W1 (a)), .int .u64 (W2 (a))]) ∧ Below w.heap.size w w' := by
  have e0 : IntKind.u64.wrap a = W0 a := by rw [IntKind.wrap_u64]; rfl
  have e1 : IntKind.u64.wrap (a / 9223372036854775808) = W1 a := by rw [IntKind.wrap_u64]; unfold W1; omega
  have e2 : W1 a = W2 a := by unfold W1 W2; omega
  have E := Lib.hid (And.intro e0 (And.intro e1 e2))
  clear e0 e1 e2
  go_enter Try.func43, Try.ntmps43
  go_wp2
  refine bodyPost_ret (v := .agg #[.int .u64 (W0 (a)), .int .u64 (W1 (a)), .int .u64 (W2 (a))]) (by simp [results, Try.results43, go_sem, E.out.1, E.out.2.1, ← E.out.2.2]) rfl ⟨rfl, (by repeat (first | with_reducible exact Below.refl _ _ | with_reducible refine Below.drew ?_ | with_reducible refine below_alloc ?_ _ | (with_reducible refine below_set ?_ ?_ _; rotate_left; (first | omega | (simp <;> omega))) | with_reducible refine below_drewN ?_ _ | with_reducible refine below_tr ?_ (by with_reducible assumption)))⟩

theorem size_any (a : Int) (w : World) (h0 : -9223372036854775808 ≤ a) (h1 : a ≤ 9223372036854775807) :
    Calls Try.prog 48 #[.int .i64 a] w fun e w' => e = .returned (.int .u64 (a.natAbs : Int)) ∧ w = w' := by
  by_cases h : a < 0
  · have e1 : IntKind.u64.wrap (-IntKind.u64.wrap a) = (a.natAbs : Int) := by rw [IntKind.wrap_u64, IntKind.wrap_u64]; omega
    have E := Lib.hid e1
    clear e1
    go_enter Try.func48, Try.ntmps48
    go_wp2
    go_ret
    exact ⟨ret_int E.out, rfl⟩
  · have e1 : a = (a.natAbs : Int) := by omega
    have E := Lib.hid e1
    clear e1
    go_enter Try.func48, Try.ntmps48
    go_wp2
    go_ret
    exact ⟨ret_int E.out, rfl⟩

end Go.Proofs.Ythopiolbnhjgnaa
