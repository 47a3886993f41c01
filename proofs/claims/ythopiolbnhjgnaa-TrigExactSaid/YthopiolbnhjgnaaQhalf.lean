/- The number layer: products, and quotients by powers of two, walked. -/
import Derived.Test.YthopiolbnhjgnaaQnum
set_option linter.unusedSimpArgs false
set_option linter.unusedVariables false
set_option maxRecDepth 20000
namespace Go.Proofs.Ythopiolbnhjgnaa
open Go.RowKit


theorem mul64 (x y : Int) (w : World) (hx : 0 ≤ x) (hy : 0 ≤ y) (gx : x ≤ 18446744073709551615) (gy : y ≤ 18446744073709551615) :
    Calls Try.prog 39 #[.int .u64 x, .int .u64 y] w fun e w' => e = .returned (.tuple #[.int .u64 (x * y / 18446744073709551616), .int .u64 (x * y % 18446744073709551616)]) ∧ w = w' := by
  obtain ⟨m, rfl⟩ : ∃ m : Nat, x = (m : Int) := ⟨x.toNat, by omega⟩
  obtain ⟨n, rfl⟩ : ∃ n : Nat, y = (n : Int) := ⟨y.toNat, by omega⟩
  refine (Try.bits_Mul64 m n (by omega) (by omega) w).mono ?_
  rintro e w' ⟨rfl, rfl⟩
  exact ⟨rfl, rfl⟩


theorem neg_two (x : Int) (w : World) (h0 : 0 ≤ x) (h1 : x < 340282366920938463463374607431768211456) :
    Calls Try.prog 49 #[.agg #[.int .u64 (x % 18446744073709551616), .int .u64 (x / 18446744073709551616), .int .u64 0]] w fun e w' => e = .returned (.agg #[.int .u64 (W0 (-x)), .int .u64 (W1 (-x)), .int .u64 (W2 (-x))]) ∧ Below w.heap.size w w' := by
  have h := neg_any x w
  have e1 : W1 x = x / 18446744073709551616 := by unfold W1; omega
  have e2 : W2 x = 0 := by unfold W2; omega
  rw [e1, e2] at h
  exact h

theorem product_any (a b : Int) (w : World) (a0 : -9223372036854775808 ≤ a) (a1 : a ≤ 9223372036854775807) (b0 : -9223372036854775808 ≤ b) (b1 : b ≤ 9223372036854775807) :
    Calls Try.prog 44 #[.int .i64 a, .int .i64 b] w fun e w' => e = .returned (.agg #[.int .u64 (W0 (a * b)), .int .u64 (W1 (a * b)), .int .u64 (W2 (a * b))]) ∧ Below w.heap.size w w' := by
  have hp : 0 ≤ (a.natAbs : Int) * (b.natAbs : Int) := Int.mul_nonneg (by omega) (by omega)
  have hq : (a.natAbs : Int) * (b.natAbs : Int) < 340282366920938463463374607431768211456 := by
    have := Int.mul_le_mul (show (a.natAbs : Int) ≤ 9223372036854775808 by omega) (show (b.natAbs : Int) ≤ 9223372036854775808 by omega) (by omega) (by omega)
    omega
  have HQ := Lib.hid (And.intro hp hq)
  clear hp hq
  by_cases h : (!decide (a < 0) == decide (b < 0)) = true
  · have e : -((a.natAbs : Int) * (b.natAbs : Int)) = a * b := by
      by_cases ha : a < 0
      · have hb : ¬ b < 0 := by intro hb; simp [ha, hb] at h
        rw [show (a.natAbs : Int) = -a by omega, show (b.natAbs : Int) = b by omega, Int.neg_mul, Int.neg_neg]
      · have hb : b < 0 := by by_cases hb : b < 0; exact hb; simp [ha, hb] at h
        rw [show (a.natAbs : Int) = a by omega, show (b.natAbs : Int) = -b by omega, Int.mul_neg, Int.neg_neg]
    have E := Lib.hid e
    clear e
    go_enter Try.func44, Try.ntmps44
    go_wp2_with (first | (go_at_call 48; refine (size_any _ _ (by assumption) (by assumption)).mono ?_; rintro e w' ⟨rfl, rfl⟩) | (go_at_call 39; refine (mul64 _ _ _ (by omega) (by omega) (by omega) (by omega)).mono ?_; rintro e w' ⟨rfl, rfl⟩) | (go_at_call 49; refine (neg_two _ _ HQ.out.1 HQ.out.2).mono ?_; rintro e w1 ⟨rfl, hb1⟩; obtain ⟨hc1, hf1⟩ := bcell hb1))
    have c0 : w1.cell? ⟨w.heap.size, 0, none⟩ = some (.int .u64 0) := by rw [hc1 _ _ (by first | omega | (simp <;> omega))]; simp
    have c1 : w1.cell? ⟨w.heap.size, 1, none⟩ = some (.int .u64 0) := by rw [hc1 _ _ (by first | omega | (simp <;> omega))]; simp
    have c2 : w1.cell? ⟨w.heap.size, 2, none⟩ = some (.int .u64 0) := by rw [hc1 _ _ (by first | omega | (simp <;> omega))]; simp
    exact bodyPost_ret (v := .agg #[.int .u64 (W0 (-((a.natAbs : Int) * (b.natAbs : Int)))), .int .u64 (W1 (-((a.natAbs : Int) * (b.natAbs : Int)))), .int .u64 (W2 (-((a.natAbs : Int) * (b.natAbs : Int))))]) (by simp [results, Try.results44, go_sem, c0, c1, c2]) rfl ⟨by rw [E.out], (by repeat (first | with_reducible exact Below.refl _ _ | with_reducible refine Below.drew ?_ | with_reducible refine below_alloc ?_ _ | (with_reducible refine below_set ?_ ?_ _; rotate_left; (first | omega | (simp <;> omega))) | with_reducible refine below_drewN ?_ _ | with_reducible refine below_tr ?_ (by with_reducible assumption)))⟩
  · have e : (a.natAbs : Int) * (b.natAbs : Int) = a * b := by
      by_cases ha : a < 0
      · have hb : b < 0 := by by_cases hb : b < 0; exact hb; simp [ha, hb] at h
        rw [show (a.natAbs : Int) = -a by omega, show (b.natAbs : Int) = -b by omega, Int.neg_mul_neg]
      · have hb : ¬ b < 0 := by intro hb; simp [ha, hb] at h
        rw [show (a.natAbs : Int) = a by omega, show (b.natAbs : Int) = b by omega]
    have E := Lib.hid e
    clear e
    go_enter Try.func44, Try.ntmps44
    go_wp2_with (first | (go_at_call 48; refine (size_any _ _ (by assumption) (by assumption)).mono ?_; rintro e w' ⟨rfl, rfl⟩) | (go_at_call 39; refine (mul64 _ _ _ (by omega) (by omega) (by omega) (by omega)).mono ?_; rintro e w' ⟨rfl, rfl⟩))
    have e0 : (a.natAbs : Int) * (b.natAbs : Int) % 18446744073709551616 = W0 (a * b) := by rw [E.out]; rfl
    have e1 : (a.natAbs : Int) * (b.natAbs : Int) / 18446744073709551616 = W1 (a * b) := by rw [← E.out]; unfold W1; have := HQ.out; omega
    have e2 : (0 : Int) = W2 (a * b) := by rw [← E.out]; unfold W2; have := HQ.out; omega
    refine bodyPost_ret (v := .agg #[.int .u64 ((a.natAbs : Int) * (b.natAbs : Int) % 18446744073709551616), .int .u64 ((a.natAbs : Int) * (b.natAbs : Int) / 18446744073709551616), .int .u64 0]) (by simp [results, Try.results44, go_sem]) rfl ⟨by rw [e0, e1]; exact congrArg (fun x => Ending.returned (.agg #[.int .u64 (W0 (a * b)), .int .u64 (W1 (a * b)), .int .u64 x])) e2, (by repeat (first | with_reducible exact Below.refl _ _ | with_reducible refine Below.drew ?_ | with_reducible refine below_alloc ?_ _ | (with_reducible refine below_set ?_ ?_ _; rotate_left; (first | omega | (simp <;> omega))) | with_reducible refine below_drewN ?_ _ | with_reducible refine below_tr ?_ (by with_reducible assumption)))⟩


theorem below_top (a0 a1 : Int) (n : Int) (w : World) (h0 : -3138550867693340381917894711603833208051177722232017256448 ≤ n) (h1 : n < 3138550867693340381917894711603833208051177722232017256448) :
    Calls Try.prog 50 #[.agg #[.int .u64 a0, .int .u64 a1, .int .u64 (W2 n)]] w fun e w' => e = .returned (.bool (decide (n < 0))) ∧ Below w.heap.size w w' := by
  have l2 := W2_lo n
  have g2 := W2_hi n
  have hW := W2_below n h0 h1
  have HW := Lib.hid hW
  clear hW h0 h1
  go_enter Try.func50, Try.ntmps50
  go_wp2
  go_ret
  refine ⟨?_, (by repeat (first | with_reducible exact Below.refl _ _ | with_reducible refine Below.drew ?_ | with_reducible refine below_alloc ?_ _ | (with_reducible refine below_set ?_ ?_ _; rotate_left; (first | omega | (simp <;> omega))) | with_reducible refine below_drewN ?_ _ | with_reducible refine below_tr ?_ (by with_reducible assumption)))⟩
  rw [← HW.out]
  rfl


set_option maxHeartbeats 1600000 in
theorem half_neg_a (n : Int) (k : Nat) (w : World) (k0 : ¬ k = 0) (k1 : k ≤ 62) (h0 : -3138550867693340381917894711603833208051177722232017256448 ≤ n) (h1 : n < 3138550867693340381917894711603833208051177722232017256448) (hs : n < 0) (ha : 2 ^ (k - 1) < n % 2 ^ k) :
    Calls Try.prog 45 #[.agg #[.int .u64 (W0 (n)), .int .u64 (W1 (n)), .int .u64 (W2 (n))], .int .i64 k] w fun e w' => e = .returned (.agg #[.int .u64 (W0 (rq n (2 ^ k))), .int .u64 (W1 (rq n (2 ^ k))), .int .u64 (W2 (rq n (2 ^ k)))]) ∧ Below w.heap.size w w' := by
  have l0 := W0_lo n
  have l1 := W1_lo n
  have l2 := W2_lo n
  have g0 := W0_hi n
  have g1 := W1_hi n
  have g2 := W2_hi n
  have o0 := word_down n k (by omega)
  have o1 := word_down1 n k (by omega)
  have e0 := wrap_pow k k1
  have e1 := wrap_pow (k - 1) (by omega)
  have e2 := lost_low n k k1
  have e3 := odd_low (n / 2 ^ k)
  have H := Lib.hid (And.intro h0 h1)
  have o2 := word_down2n n k (by omega) h0 hs
  have hn : decide (n < 0) = true := by simp [hs]
  clear h0 h1 hs
  have R := Lib.hid (rq_a n k k0 ha)
  have d1 : decide (2 ^ (k - 1) < n % 2 ^ k) = true := by simp [ha]
  clear ha
  go_enter Try.func45, Try.ntmps45
  go_wp2
  go_region
  go_wp2
  refine wp_loop_rounds 4 ?_
  rw [rounds_succ]
  go_wp2
  rw [rounds_succ]
  go_wp2
  rw [rounds_succ]
  go_wp2_with (first | (go_at_call 50; refine (below_top _ _ n _ H.out.1 H.out.2).mono ?_; rintro e w1 ⟨rfl, hb1⟩; have z1 := hb1.size; simp at z1; have c1a := fun o => (bcell hb1).1 (w.heap.size) o (by first | omega | (simp <;> omega)); have f1a := fun o => (bcell hb1).2 (w.heap.size) o (by first | omega | (simp <;> omega)); have c1b := fun o => (bcell hb1).1 (w.heap.size + 1) o (by first | omega | (simp <;> omega)); have f1b := fun o => (bcell hb1).2 (w.heap.size + 1) o (by first | omega | (simp <;> omega))))
  rw [rounds_succ]
  go_wp2_with (first | (go_at_call 47; refine (plus_one _ _).mono ?_; rintro e w2 ⟨rfl, hb2⟩; have z2 := hb2.size; simp at z2; have c2a := fun o => (bcell hb2).1 (w.heap.size) o (by first | omega | (simp <;> omega)); have f2a := fun o => (bcell hb2).2 (w.heap.size) o (by first | omega | (simp <;> omega)); have c2b := fun o => (bcell hb2).1 (w.heap.size + 1) o (by first | omega | (simp <;> omega)); have f2b := fun o => (bcell hb2).2 (w.heap.size + 1) o (by first | omega | (simp <;> omega))))
  exact bodyPost_ret (v := .agg #[.int .u64 (W0 (n / 2 ^ k + 1)), .int .u64 (W1 (n / 2 ^ k + 1)), .int .u64 (W2 (n / 2 ^ k + 1))]) (by simp [results, Try.results45, go_sem, c1a, c1b, c2a, c2b]) rfl ⟨by rw [R.out], (by repeat (first | with_reducible exact Below.refl _ _ | with_reducible refine Below.drew ?_ | with_reducible refine below_alloc ?_ _ | (with_reducible refine below_set ?_ ?_ _; rotate_left; (first | omega | (simp <;> omega))) | with_reducible refine below_drewN ?_ _ | with_reducible refine below_tr ?_ (by with_reducible assumption)))⟩

set_option maxHeartbeats 1600000 in
theorem half_neg_b (n : Int) (k : Nat) (w : World) (k0 : ¬ k = 0) (k1 : k ≤ 62) (h0 : -3138550867693340381917894711603833208051177722232017256448 ≤ n) (h1 : n < 3138550867693340381917894711603833208051177722232017256448) (hs : n < 0) (ha : n % 2 ^ k = 2 ^ (k - 1)) (hb : (n / 2 ^ k % 2 == 1) = true) :
    Calls Try.prog 45 #[.agg #[.int .u64 (W0 (n)), .int .u64 (W1 (n)), .int .u64 (W2 (n))], .int .i64 k] w fun e w' => e = .returned (.agg #[.int .u64 (W0 (rq n (2 ^ k))), .int .u64 (W1 (rq n (2 ^ k))), .int .u64 (W2 (rq n (2 ^ k)))]) ∧ Below w.heap.size w w' := by
  have l0 := W0_lo n
  have l1 := W1_lo n
  have l2 := W2_lo n
  have g0 := W0_hi n
  have g1 := W1_hi n
  have g2 := W2_hi n
  have o0 := word_down n k (by omega)
  have o1 := word_down1 n k (by omega)
  have e0 := wrap_pow k k1
  have e1 := wrap_pow (k - 1) (by omega)
  have e2 := lost_low n k k1
  have e3 := odd_low (n / 2 ^ k)
  have H := Lib.hid (And.intro h0 h1)
  have o2 := word_down2n n k (by omega) h0 hs
  have hn : decide (n < 0) = true := by simp [hs]
  clear h0 h1 hs
  have R := Lib.hid (rq_b n k k0 ha hb)
  go_enter Try.func45, Try.ntmps45
  go_wp2
  go_region
  go_wp2
  refine wp_loop_rounds 4 ?_
  rw [rounds_succ]
  go_wp2
  rw [rounds_succ]
  go_wp2
  rw [rounds_succ]
  go_wp2_with (first | (go_at_call 50; refine (below_top _ _ n _ H.out.1 H.out.2).mono ?_; rintro e w1 ⟨rfl, hb1⟩; have z1 := hb1.size; simp at z1; have c1a := fun o => (bcell hb1).1 (w.heap.size) o (by first | omega | (simp <;> omega)); have f1a := fun o => (bcell hb1).2 (w.heap.size) o (by first | omega | (simp <;> omega)); have c1b := fun o => (bcell hb1).1 (w.heap.size + 1) o (by first | omega | (simp <;> omega)); have f1b := fun o => (bcell hb1).2 (w.heap.size + 1) o (by first | omega | (simp <;> omega))))
  rw [rounds_succ]
  go_wp2_with (first | (go_at_call 47; refine (plus_one _ _).mono ?_; rintro e w2 ⟨rfl, hb2⟩; have z2 := hb2.size; simp at z2; have c2a := fun o => (bcell hb2).1 (w.heap.size) o (by first | omega | (simp <;> omega)); have f2a := fun o => (bcell hb2).2 (w.heap.size) o (by first | omega | (simp <;> omega)); have c2b := fun o => (bcell hb2).1 (w.heap.size + 1) o (by first | omega | (simp <;> omega)); have f2b := fun o => (bcell hb2).2 (w.heap.size + 1) o (by first | omega | (simp <;> omega))))
  exact bodyPost_ret (v := .agg #[.int .u64 (W0 (n / 2 ^ k + 1)), .int .u64 (W1 (n / 2 ^ k + 1)), .int .u64 (W2 (n / 2 ^ k + 1))]) (by simp [results, Try.results45, go_sem, c1a, c1b, c2a, c2b]) rfl ⟨by rw [R.out], (by repeat (first | with_reducible exact Below.refl _ _ | with_reducible refine Below.drew ?_ | with_reducible refine below_alloc ?_ _ | (with_reducible refine below_set ?_ ?_ _; rotate_left; (first | omega | (simp <;> omega))) | with_reducible refine below_drewN ?_ _ | with_reducible refine below_tr ?_ (by with_reducible assumption)))⟩

set_option maxHeartbeats 1600000 in
theorem half_neg_c (n : Int) (k : Nat) (w : World) (k0 : ¬ k = 0) (k1 : k ≤ 62) (h0 : -3138550867693340381917894711603833208051177722232017256448 ≤ n) (h1 : n < 3138550867693340381917894711603833208051177722232017256448) (hs : n < 0) (ha : n % 2 ^ k = 2 ^ (k - 1)) (hb : (n / 2 ^ k % 2 == 1) = false) :
    Calls Try.prog 45 #[.agg #[.int .u64 (W0 (n)), .int .u64 (W1 (n)), .int .u64 (W2 (n))], .int .i64 k] w fun e w' => e = .returned (.agg #[.int .u64 (W0 (rq n (2 ^ k))), .int .u64 (W1 (rq n (2 ^ k))), .int .u64 (W2 (rq n (2 ^ k)))]) ∧ Below w.heap.size w w' := by
  have l0 := W0_lo n
  have l1 := W1_lo n
  have l2 := W2_lo n
  have g0 := W0_hi n
  have g1 := W1_hi n
  have g2 := W2_hi n
  have o0 := word_down n k (by omega)
  have o1 := word_down1 n k (by omega)
  have e0 := wrap_pow k k1
  have e1 := wrap_pow (k - 1) (by omega)
  have e2 := lost_low n k k1
  have e3 := odd_low (n / 2 ^ k)
  have H := Lib.hid (And.intro h0 h1)
  have o2 := word_down2n n k (by omega) h0 hs
  have hn : decide (n < 0) = true := by simp [hs]
  clear h0 h1 hs
  have R := Lib.hid (rq_c n k k0 ha hb)
  go_enter Try.func45, Try.ntmps45
  go_wp2
  go_region
  go_wp2
  refine wp_loop_rounds 4 ?_
  rw [rounds_succ]
  go_wp2
  rw [rounds_succ]
  go_wp2
  rw [rounds_succ]
  go_wp2_with (first | (go_at_call 50; refine (below_top _ _ n _ H.out.1 H.out.2).mono ?_; rintro e w1 ⟨rfl, hb1⟩; have z1 := hb1.size; simp at z1; have c1a := fun o => (bcell hb1).1 (w.heap.size) o (by first | omega | (simp <;> omega)); have f1a := fun o => (bcell hb1).2 (w.heap.size) o (by first | omega | (simp <;> omega)); have c1b := fun o => (bcell hb1).1 (w.heap.size + 1) o (by first | omega | (simp <;> omega)); have f1b := fun o => (bcell hb1).2 (w.heap.size + 1) o (by first | omega | (simp <;> omega))))
  rw [rounds_succ]
  go_wp2
  exact bodyPost_ret (v := .agg #[.int .u64 (W0 (n / 2 ^ k)), .int .u64 (W1 (n / 2 ^ k)), .int .u64 (W2 (n / 2 ^ k))]) (by simp [results, Try.results45, go_sem, c1a, c1b]) rfl ⟨by rw [R.out], (by repeat (first | with_reducible exact Below.refl _ _ | with_reducible refine Below.drew ?_ | with_reducible refine below_alloc ?_ _ | (with_reducible refine below_set ?_ ?_ _; rotate_left; (first | omega | (simp <;> omega))) | with_reducible refine below_drewN ?_ _ | with_reducible refine below_tr ?_ (by with_reducible assumption)))⟩

set_option maxHeartbeats 1600000 in
theorem half_neg_d (n : Int) (k : Nat) (w : World) (k0 : ¬ k = 0) (k1 : k ≤ 62) (h0 : -3138550867693340381917894711603833208051177722232017256448 ≤ n) (h1 : n < 3138550867693340381917894711603833208051177722232017256448) (hs : n < 0) (ha : n % 2 ^ k ≤ 2 ^ (k - 1)) (hb : ¬ n % 2 ^ k = 2 ^ (k - 1)) :
    Calls Try.prog 45 #[.agg #[.int .u64 (W0 (n)), .int .u64 (W1 (n)), .int .u64 (W2 (n))], .int .i64 k] w fun e w' => e = .returned (.agg #[.int .u64 (W0 (rq n (2 ^ k))), .int .u64 (W1 (rq n (2 ^ k))), .int .u64 (W2 (rq n (2 ^ k)))]) ∧ Below w.heap.size w w' := by
  have l0 := W0_lo n
  have l1 := W1_lo n
  have l2 := W2_lo n
  have g0 := W0_hi n
  have g1 := W1_hi n
  have g2 := W2_hi n
  have o0 := word_down n k (by omega)
  have o1 := word_down1 n k (by omega)
  have e0 := wrap_pow k k1
  have e1 := wrap_pow (k - 1) (by omega)
  have e2 := lost_low n k k1
  have e3 := odd_low (n / 2 ^ k)
  have H := Lib.hid (And.intro h0 h1)
  have o2 := word_down2n n k (by omega) h0 hs
  have hn : decide (n < 0) = true := by simp [hs]
  clear h0 h1 hs
  have R := Lib.hid (rq_d n k k0 ha hb)
  have d1 : decide (2 ^ (k - 1) < n % 2 ^ k) = false := by simp [ha]
  have d2 : (n % 2 ^ k == 2 ^ (k - 1)) = false := by simp [hb]
  clear ha hb
  go_enter Try.func45, Try.ntmps45
  go_wp2
  go_region
  go_wp2
  refine wp_loop_rounds 4 ?_
  rw [rounds_succ]
  go_wp2
  rw [rounds_succ]
  go_wp2
  rw [rounds_succ]
  go_wp2_with (first | (go_at_call 50; refine (below_top _ _ n _ H.out.1 H.out.2).mono ?_; rintro e w1 ⟨rfl, hb1⟩; have z1 := hb1.size; simp at z1; have c1a := fun o => (bcell hb1).1 (w.heap.size) o (by first | omega | (simp <;> omega)); have f1a := fun o => (bcell hb1).2 (w.heap.size) o (by first | omega | (simp <;> omega)); have c1b := fun o => (bcell hb1).1 (w.heap.size + 1) o (by first | omega | (simp <;> omega)); have f1b := fun o => (bcell hb1).2 (w.heap.size + 1) o (by first | omega | (simp <;> omega))))
  rw [rounds_succ]
  go_wp2
  exact bodyPost_ret (v := .agg #[.int .u64 (W0 (n / 2 ^ k)), .int .u64 (W1 (n / 2 ^ k)), .int .u64 (W2 (n / 2 ^ k))]) (by simp [results, Try.results45, go_sem, c1a, c1b]) rfl ⟨by rw [R.out], (by repeat (first | with_reducible exact Below.refl _ _ | with_reducible refine Below.drew ?_ | with_reducible refine below_alloc ?_ _ | (with_reducible refine below_set ?_ ?_ _; rotate_left; (first | omega | (simp <;> omega))) | with_reducible refine below_drewN ?_ _ | with_reducible refine below_tr ?_ (by with_reducible assumption)))⟩
set_option maxHeartbeats 1600000 in
theorem half_pos_a (n : Int) (k : Nat) (w : World) (k0 : ¬ k = 0) (k1 : k ≤ 62) (h0 : -3138550867693340381917894711603833208051177722232017256448 ≤ n) (h1 : n < 3138550867693340381917894711603833208051177722232017256448) (hs : 0 ≤ n) (ha : 2 ^ (k - 1) < n % 2 ^ k) :
    Calls Try.prog 45 #[.agg #[.int .u64 (W0 (n)), .int .u64 (W1 (n)), .int .u64 (W2 (n))], .int .i64 k] w fun e w' => e = .returned (.agg #[.int .u64 (W0 (rq n (2 ^ k))), .int .u64 (W1 (rq n (2 ^ k))), .int .u64 (W2 (rq n (2 ^ k)))]) ∧ Below w.heap.size w w' := by
  have l0 := W0_lo n
  have l1 := W1_lo n
  have l2 := W2_lo n
  have g0 := W0_hi n
  have g1 := W1_hi n
  have g2 := W2_hi n
  have o0 := word_down n k (by omega)
  have o1 := word_down1 n k (by omega)
  have e0 := wrap_pow k k1
  have e1 := wrap_pow (k - 1) (by omega)
  have e2 := lost_low n k k1
  have e3 := odd_low (n / 2 ^ k)
  have H := Lib.hid (And.intro h0 h1)
  have o2 := word_down2 n k (by omega) hs h1
  have hn : decide (n < 0) = false := by simp; omega
  clear h0 h1 hs
  have R := Lib.hid (rq_a n k k0 ha)
  have d1 : decide (2 ^ (k - 1) < n % 2 ^ k) = true := by simp [ha]
  clear ha
  go_enter Try.func45, Try.ntmps45
  go_wp2
  go_region
  go_wp2
  refine wp_loop_rounds 4 ?_
  rw [rounds_succ]
  go_wp2
  rw [rounds_succ]
  go_wp2
  rw [rounds_succ]
  go_wp2_with (first | (go_at_call 50; refine (below_top _ _ n _ H.out.1 H.out.2).mono ?_; rintro e w1 ⟨rfl, hb1⟩; have z1 := hb1.size; simp at z1; have c1a := fun o => (bcell hb1).1 (w.heap.size) o (by first | omega | (simp <;> omega)); have f1a := fun o => (bcell hb1).2 (w.heap.size) o (by first | omega | (simp <;> omega)); have c1b := fun o => (bcell hb1).1 (w.heap.size + 1) o (by first | omega | (simp <;> omega)); have f1b := fun o => (bcell hb1).2 (w.heap.size + 1) o (by first | omega | (simp <;> omega))))
  rw [rounds_succ]
  go_wp2_with (first | (go_at_call 47; refine (plus_one _ _).mono ?_; rintro e w2 ⟨rfl, hb2⟩; have z2 := hb2.size; simp at z2; have c2a := fun o => (bcell hb2).1 (w.heap.size) o (by first | omega | (simp <;> omega)); have f2a := fun o => (bcell hb2).2 (w.heap.size) o (by first | omega | (simp <;> omega)); have c2b := fun o => (bcell hb2).1 (w.heap.size + 1) o (by first | omega | (simp <;> omega)); have f2b := fun o => (bcell hb2).2 (w.heap.size + 1) o (by first | omega | (simp <;> omega))))
  exact bodyPost_ret (v := .agg #[.int .u64 (W0 (n / 2 ^ k + 1)), .int .u64 (W1 (n / 2 ^ k + 1)), .int .u64 (W2 (n / 2 ^ k + 1))]) (by simp [results, Try.results45, go_sem, c1a, c1b, c2a, c2b]) rfl ⟨by rw [R.out], (by repeat (first | with_reducible exact Below.refl _ _ | with_reducible refine Below.drew ?_ | with_reducible refine below_alloc ?_ _ | (with_reducible refine below_set ?_ ?_ _; rotate_left; (first | omega | (simp <;> omega))) | with_reducible refine below_drewN ?_ _ | with_reducible refine below_tr ?_ (by with_reducible assumption)))⟩

set_option maxHeartbeats 1600000 in
theorem half_pos_b (n : Int) (k : Nat) (w : World) (k0 : ¬ k = 0) (k1 : k ≤ 62) (h0 : -3138550867693340381917894711603833208051177722232017256448 ≤ n) (h1 : n < 3138550867693340381917894711603833208051177722232017256448) (hs : 0 ≤ n) (ha : n % 2 ^ k = 2 ^ (k - 1)) (hb : (n / 2 ^ k % 2 == 1) = true) :
    Calls Try.prog 45 #[.agg #[.int .u64 (W0 (n)), .int .u64 (W1 (n)), .int .u64 (W2 (n))], .int .i64 k] w fun e w' => e = .returned (.agg #[.int .u64 (W0 (rq n (2 ^ k))), .int .u64 (W1 (rq n (2 ^ k))), .int .u64 (W2 (rq n (2 ^ k)))]) ∧ Below w.heap.size w w' := by
  have l0 := W0_lo n
  have l1 := W1_lo n
  have l2 := W2_lo n
  have g0 := W0_hi n
  have g1 := W1_hi n
  have g2 := W2_hi n
  have o0 := word_down n k (by omega)
  have o1 := word_down1 n k (by omega)
  have e0 := wrap_pow k k1
  have e1 := wrap_pow (k - 1) (by omega)
  have e2 := lost_low n k k1
  have e3 := odd_low (n / 2 ^ k)
  have H := Lib.hid (And.intro h0 h1)
  have o2 := word_down2 n k (by omega) hs h1
  have hn : decide (n < 0) = false := by simp; omega
  clear h0 h1 hs
  have R := Lib.hid (rq_b n k k0 ha hb)
  go_enter Try.func45, Try.ntmps45
  go_wp2
  go_region
  go_wp2
  refine wp_loop_rounds 4 ?_
  rw [rounds_succ]
  go_wp2
  rw [rounds_succ]
  go_wp2
  rw [rounds_succ]
  go_wp2_with (first | (go_at_call 50; refine (below_top _ _ n _ H.out.1 H.out.2).mono ?_; rintro e w1 ⟨rfl, hb1⟩; have z1 := hb1.size; simp at z1; have c1a := fun o => (bcell hb1).1 (w.heap.size) o (by first | omega | (simp <;> omega)); have f1a := fun o => (bcell hb1).2 (w.heap.size) o (by first | omega | (simp <;> omega)); have c1b := fun o => (bcell hb1).1 (w.heap.size + 1) o (by first | omega | (simp <;> omega)); have f1b := fun o => (bcell hb1).2 (w.heap.size + 1) o (by first | omega | (simp <;> omega))))
  rw [rounds_succ]
  go_wp2_with (first | (go_at_call 47; refine (plus_one _ _).mono ?_; rintro e w2 ⟨rfl, hb2⟩; have z2 := hb2.size; simp at z2; have c2a := fun o => (bcell hb2).1 (w.heap.size) o (by first | omega | (simp <;> omega)); have f2a := fun o => (bcell hb2).2 (w.heap.size) o (by first | omega | (simp <;> omega)); have c2b := fun o => (bcell hb2).1 (w.heap.size + 1) o (by first | omega | (simp <;> omega)); have f2b := fun o => (bcell hb2).2 (w.heap.size + 1) o (by first | omega | (simp <;> omega))))
  exact bodyPost_ret (v := .agg #[.int .u64 (W0 (n / 2 ^ k + 1)), .int .u64 (W1 (n / 2 ^ k + 1)), .int .u64 (W2 (n / 2 ^ k + 1))]) (by simp [results, Try.results45, go_sem, c1a, c1b, c2a, c2b]) rfl ⟨by rw [R.out], (by repeat (first | with_reducible exact Below.refl _ _ | with_reducible refine Below.drew ?_ | with_reducible refine below_alloc ?_ _ | (with_reducible refine below_set ?_ ?_ _; rotate_left; (first | omega | (simp <;> omega))) | with_reducible refine below_drewN ?_ _ | with_reducible refine below_tr ?_ (by with_reducible assumption)))⟩

set_option maxHeartbeats 1600000 in
theorem half_pos_c (n : Int) (k : Nat) (w : World) (k0 : ¬ k = 0) (k1 : k ≤ 62) (h0 : -3138550867693340381917894711603833208051177722232017256448 ≤ n) (h1 : n < 3138550867693340381917894711603833208051177722232017256448) (hs : 0 ≤ n) (ha : n % 2 ^ k = 2 ^ (k - 1)) (hb : (n / 2 ^ k % 2 == 1) = false) :
    Calls Try.prog 45 #[.agg #[.int .u64 (W0 (n)), .int .u64 (W1 (n)), .int .u64 (W2 (n))], .int .i64 k] w fun e w' => e = .returned (.agg #[.int .u64 (W0 (rq n (2 ^ k))), .int .u64 (W1 (rq n (2 ^ k))), .int .u64 (W2 (rq n (2 ^ k)))]) ∧ Below w.heap.size w w' := by
  have l0 := W0_lo n
  have l1 := W1_lo n
  have l2 := W2_lo n
  have g0 := W0_hi n
  have g1 := W1_hi n
  have g2 := W2_hi n
  have o0 := word_down n k (by omega)
  have o1 := word_down1 n k (by omega)
  have e0 := wrap_pow k k1
  have e1 := wrap_pow (k - 1) (by omega)
  have e2 := lost_low n k k1
  have e3 := odd_low (n / 2 ^ k)
  have H := Lib.hid (And.intro h0 h1)
  have o2 := word_down2 n k (by omega) hs h1
  have hn : decide (n < 0) = false := by simp; omega
  clear h0 h1 hs
  have R := Lib.hid (rq_c n k k0 ha hb)
  go_enter Try.func45, Try.ntmps45
  go_wp2
  go_region
  go_wp2
  refine wp_loop_rounds 4 ?_
  rw [rounds_succ]
  go_wp2
  rw [rounds_succ]
  go_wp2
  rw [rounds_succ]
  go_wp2_with (first | (go_at_call 50; refine (below_top _ _ n _ H.out.1 H.out.2).mono ?_; rintro e w1 ⟨rfl, hb1⟩; have z1 := hb1.size; simp at z1; have c1a := fun o => (bcell hb1).1 (w.heap.size) o (by first | omega | (simp <;> omega)); have f1a := fun o => (bcell hb1).2 (w.heap.size) o (by first | omega | (simp <;> omega)); have c1b := fun o => (bcell hb1).1 (w.heap.size + 1) o (by first | omega | (simp <;> omega)); have f1b := fun o => (bcell hb1).2 (w.heap.size + 1) o (by first | omega | (simp <;> omega))))
  rw [rounds_succ]
  go_wp2
  exact bodyPost_ret (v := .agg #[.int .u64 (W0 (n / 2 ^ k)), .int .u64 (W1 (n / 2 ^ k)), .int .u64 (W2 (n / 2 ^ k))]) (by simp [results, Try.results45, go_sem, c1a, c1b]) rfl ⟨by rw [R.out], (by repeat (first | with_reducible exact Below.refl _ _ | with_reducible refine Below.drew ?_ | with_reducible refine below_alloc ?_ _ | (with_reducible refine below_set ?_ ?_ _; rotate_left; (first | omega | (simp <;> omega))) | with_reducible refine below_drewN ?_ _ | with_reducible refine below_tr ?_ (by with_reducible assumption)))⟩

set_option maxHeartbeats 1600000 in
theorem half_pos_d (n : Int) (k : Nat) (w : World) (k0 : ¬ k = 0) (k1 : k ≤ 62) (h0 : -3138550867693340381917894711603833208051177722232017256448 ≤ n) (h1 : n < 3138550867693340381917894711603833208051177722232017256448) (hs : 0 ≤ n) (ha : n % 2 ^ k ≤ 2 ^ (k - 1)) (hb : ¬ n % 2 ^ k = 2 ^ (k - 1)) :
    Calls Try.prog 45 #[.agg #[.int .u64 (W0 (n)), .int .u64 (W1 (n)), .int .u64 (W2 (n))], .int .i64 k] w fun e w' => e = .returned (.agg #[.int .u64 (W0 (rq n (2 ^ k))), .int .u64 (W1 (rq n (2 ^ k))), .int .u64 (W2 (rq n (2 ^ k)))]) ∧ Below w.heap.size w w' := by
  have l0 := W0_lo n
  have l1 := W1_lo n
  have l2 := W2_lo n
  have g0 := W0_hi n
  have g1 := W1_hi n
  have g2 := W2_hi n
  have o0 := word_down n k (by omega)
  have o1 := word_down1 n k (by omega)
  have e0 := wrap_pow k k1
  have e1 := wrap_pow (k - 1) (by omega)
  have e2 := lost_low n k k1
  have e3 := odd_low (n / 2 ^ k)
  have H := Lib.hid (And.intro h0 h1)
  have o2 := word_down2 n k (by omega) hs h1
  have hn : decide (n < 0) = false := by simp; omega
  clear h0 h1 hs
  have R := Lib.hid (rq_d n k k0 ha hb)
  have d1 : decide (2 ^ (k - 1) < n % 2 ^ k) = false := by simp [ha]
  have d2 : (n % 2 ^ k == 2 ^ (k - 1)) = false := by simp [hb]
  clear ha hb
  go_enter Try.func45, Try.ntmps45
  go_wp2
  go_region
  go_wp2
  refine wp_loop_rounds 4 ?_
  rw [rounds_succ]
  go_wp2
  rw [rounds_succ]
  go_wp2
  rw [rounds_succ]
  go_wp2_with (first | (go_at_call 50; refine (below_top _ _ n _ H.out.1 H.out.2).mono ?_; rintro e w1 ⟨rfl, hb1⟩; have z1 := hb1.size; simp at z1; have c1a := fun o => (bcell hb1).1 (w.heap.size) o (by first | omega | (simp <;> omega)); have f1a := fun o => (bcell hb1).2 (w.heap.size) o (by first | omega | (simp <;> omega)); have c1b := fun o => (bcell hb1).1 (w.heap.size + 1) o (by first | omega | (simp <;> omega)); have f1b := fun o => (bcell hb1).2 (w.heap.size + 1) o (by first | omega | (simp <;> omega))))
  rw [rounds_succ]
  go_wp2
  exact bodyPost_ret (v := .agg #[.int .u64 (W0 (n / 2 ^ k)), .int .u64 (W1 (n / 2 ^ k)), .int .u64 (W2 (n / 2 ^ k))]) (by simp [results, Try.results45, go_sem, c1a, c1b]) rfl ⟨by rw [R.out], (by repeat (first | with_reducible exact Below.refl _ _ | with_reducible refine Below.drew ?_ | with_reducible refine below_alloc ?_ _ | (with_reducible refine below_set ?_ ?_ _; rotate_left; (first | omega | (simp <;> omega))) | with_reducible refine below_drewN ?_ _ | with_reducible refine below_tr ?_ (by with_reducible assumption)))⟩

theorem half_zero (n : Int) (w : World) :
    Calls Try.prog 45 #[.agg #[.int .u64 (W0 (n)), .int .u64 (W1 (n)), .int .u64 (W2 (n))], .int .i64 0] w fun e w' => e = .returned (.agg #[.int .u64 (W0 (n)), .int .u64 (W1 (n)), .int .u64 (W2 (n))]) ∧ Below w.heap.size w w' := by
  go_enter Try.func45, Try.ntmps45
  go_wp2
  exact bodyPost_ret (v := .agg #[.int .u64 (W0 (n)), .int .u64 (W1 (n)), .int .u64 (W2 (n))]) (by simp [results, Try.results45, go_sem]) rfl ⟨rfl, (by repeat (first | with_reducible exact Below.refl _ _ | with_reducible refine Below.drew ?_ | with_reducible refine below_alloc ?_ _ | (with_reducible refine below_set ?_ ?_ _; rotate_left; (first | omega | (simp <;> omega))) | with_reducible refine below_drewN ?_ _ | with_reducible refine below_tr ?_ (by with_reducible assumption)))⟩

theorem half_any (n : Int) (k : Nat) (w : World) (k1 : k ≤ 62) (h0 : -3138550867693340381917894711603833208051177722232017256448 ≤ n) (h1 : n < 3138550867693340381917894711603833208051177722232017256448) :
    Calls Try.prog 45 #[.agg #[.int .u64 (W0 (n)), .int .u64 (W1 (n)), .int .u64 (W2 (n))], .int .i64 k] w fun e w' => e = .returned (.agg #[.int .u64 (W0 (rq n (2 ^ k))), .int .u64 (W1 (rq n (2 ^ k))), .int .u64 (W2 (rq n (2 ^ k)))]) ∧ Below w.heap.size w w' := by
  by_cases k0 : k = 0
  · subst k0
    rw [rq_0]
    exact half_zero n w
  · by_cases hs : n < 0
    · by_cases ha : 2 ^ (k - 1) < n % 2 ^ k
      · exact half_neg_a n k w k0 k1 h0 h1 hs ha
      · by_cases hb : n % 2 ^ k = 2 ^ (k - 1)
        · cases hc : (n / 2 ^ k % 2 == 1)
          · exact half_neg_c n k w k0 k1 h0 h1 hs hb hc
          · exact half_neg_b n k w k0 k1 h0 h1 hs hb hc
        · exact half_neg_d n k w k0 k1 h0 h1 hs (by omega) hb
    · by_cases ha : 2 ^ (k - 1) < n % 2 ^ k
      · exact half_pos_a n k w k0 k1 h0 h1 (by omega) ha
      · by_cases hb : n % 2 ^ k = 2 ^ (k - 1)
        · cases hc : (n / 2 ^ k % 2 == 1)
          · exact half_pos_c n k w k0 k1 h0 h1 (by omega) hb hc
          · exact half_pos_b n k w k0 k1 h0 h1 (by omega) hb hc
        · exact half_pos_d n k w k0 k1 h0 h1 (by omega) (by omega) hb

end Go.Proofs.Ythopiolbnhjgnaa
