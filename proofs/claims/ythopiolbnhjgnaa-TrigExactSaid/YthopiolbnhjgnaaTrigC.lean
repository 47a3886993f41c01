/- How far a place is, walked. -/
import Derived.Test.YthopiolbnhjgnaaTrigB
set_option linter.unusedSimpArgs false
set_option linter.unusedVariables false
set_option maxRecDepth 20000
namespace Go.Proofs.Ythopiolbnhjgnaa
open Go.RowKit



theorem or_bit (a : Int) (k : Nat) (hk : k ≤ 62) (h0 : 0 ≤ a) (h1 : a % 2 ^ (k + 1) = 0) (h2 : a + 2 ^ (k + 1) ≤ 9223372036854775808) : bits .or .u64 a (2 ^ k) = a + 2 ^ k := by
  have hp : (0 : Int) < 2 ^ k := Int.pow_pos (by decide)
  have e : (2 : Int) ^ (k + 1) = 2 ^ k * 2 := Int.pow_succ _ _
  exact bits_join .u64 64 (by decide) wraps_u64 (k + 1) a (2 ^ k) h0 h1 (by omega) (by omega) (by omega) (by omega)

/-- Facts of one round, for the walk. -/
theorem root_round (s : Int) (hs : 0 ≤ s) (h2 : s < 85070591730234615865843651857942052864) (j : Nat) (hj : j ≤ 62) :
    bits .or .u64 (rtF s j) (bitJ j) = rtF s j + bitJ j ∧ (0 < bitJ j) ∧ (0 ≤ rtF s j + bitJ j ∧ rtF s j + bitJ j ≤ 9223372036854775807) := by
  obtain ⟨a, b, c, d, e⟩ := rtF_ok s hs h2 j (by omega)
  have hb := bitJ_pow j hj
  have hp : (0 : Int) < 2 ^ (62 - j) := Int.pow_pos (by decide)
  have e1 : 63 - j = 62 - j + 1 := by omega
  rw [e1] at d e
  have e2 : (2 : Int) ^ (62 - j + 1) = 2 ^ (62 - j) * 2 := Int.pow_succ _ _
  rw [hb]
  exact ⟨or_bit _ _ (by omega) a d e, hp, by omega, by omega⟩

theorem rtF_step_yes (s : Int) (j : Nat) (h : (rtF s j + bitJ j) * (rtF s j + bitJ j) ≤ s) : rtF s (j + 1) = rtF s j + bitJ j := by
  simp only [rtF]; rw [if_pos h]
theorem rtF_step_no (s : Int) (j : Nat) (h : ¬ (rtF s j + bitJ j) * (rtF s j + bitJ j) ≤ s) : rtF s (j + 1) = rtF s j := by
  simp only [rtF]; rw [if_neg h]

theorem mul64w (x y : Int) (w : World) (hx : 0 ≤ x) (hy : 0 ≤ y) (gx : x ≤ 9223372036854775807) (gy : y ≤ 9223372036854775807) :
    Calls Try.prog 39 #[.int .u64 x, .int .u64 y] w fun e w' => e = .returned (.tuple #[.int .u64 (x * y / 18446744073709551616), .int .u64 (x * y % 18446744073709551616)]) ∧ w = w' := mul64 x y w hx hy (by omega) (by omega)

set_option maxHeartbeats 4000000 in
theorem root_any (x y : Int) (w : World) (x0 : -4611686018427387903 ≤ x) (x1 : x ≤ 4611686018427387903) (y0 : -4611686018427387903 ≤ y) (y1 : y ≤ 4611686018427387903) :
    Calls Try.prog 35 #[.int .i64 (x), .int .i64 (y)] w fun e w' => e = .returned (.int .i64 (far x y)) ∧ w = w' := by
  have hs0 : 0 ≤ x * x + y * y := Int.add_nonneg (by rw [← Int.natAbs_mul_self]; omega) (by rw [← Int.natAbs_mul_self]; omega)
  have b1 : x.natAbs * x.natAbs ≤ 4611686018427387903 * 4611686018427387903 := Nat.mul_le_mul (by omega) (by omega)
  have b2 : y.natAbs * y.natAbs ≤ 4611686018427387903 * 4611686018427387903 := Nat.mul_le_mul (by omega) (by omega)
  have q1 : x * x = ((x.natAbs * x.natAbs : Nat) : Int) := Int.natAbs_mul_self.symm
  have q2 : y * y = ((y.natAbs * y.natAbs : Nat) : Int) := Int.natAbs_mul_self.symm
  have hs1 : x * x + y * y < 85070591730234615865843651857942052864 := by omega
  have p1 : (x.natAbs : Int) * (x.natAbs : Int) = x * x := by rw [q1]; simp
  have p2 : (y.natAbs : Int) * (y.natAbs : Int) = y * y := by rw [q2]; simp
  have S := Lib.hid (And.intro hs0 hs1)
  have X0 : 0 ≤ x * x := by omega
  have Y0 : 0 ≤ y * y := by omega
  have X1 : x * x ≤ 21267647932558653966460912964485513215 := by omega
  have Y1 : y * y ≤ 21267647932558653966460912964485513215 := by omega
  have XY := Lib.hid (And.intro (And.intro X0 X1) (And.intro Y0 Y1))
  clear b1 b2 q1 q2 hs0 hs1
  have hA := fun w => add64z (x * x % 18446744073709551616) (y * y % 18446744073709551616) (by omega) (by omega) w
  have hB := fun w => add64 (x * x / 18446744073709551616) (y * y / 18446744073709551616) ((x * x % 18446744073709551616 + y * y % 18446744073709551616) / 18446744073709551616) (by omega) (by omega) (by omega) (by omega) w
  have eA : (x * x % 18446744073709551616 + y * y % 18446744073709551616) % 18446744073709551616 = (x * x + y * y) % 18446744073709551616 := by omega
  have eB : (x * x / 18446744073709551616 + y * y / 18446744073709551616 + (x * x % 18446744073709551616 + y * y % 18446744073709551616) / 18446744073709551616) % 18446744073709551616 = (x * x + y * y) / 18446744073709551616 := by omega
  simp only [eA] at hA
  simp only [eB] at hB
  clear eA eB X0 Y0 X1 Y1
  obtain ⟨s, hs⟩ : ∃ s, x * x + y * y = s := ⟨_, rfl⟩
  rw [hs] at hA hB S
  have R := Lib.hid (fun j hj => root_round s S.out.1 S.out.2 j hj)
  have F := Lib.hid (show far x y = if rtF s 63 < 4611686018427387903 then rtF s 63 else 4611686018427387903 by unfold far; rw [hs])
  have F2 := Lib.hid (far_is s S.out.1 S.out.2)
  clear hs
  go_enter Try.func35, Try.ntmps35
  go_wp2_with (first
    | (go_at_call 34; refine (tsize_any _ _ (by omega) (by omega)).mono ?_; rintro e w' ⟨rfl, rfl⟩)
    | (go_at_call 39; refine (mul64w _ _ _ (by omega) (by omega) (by omega) (by omega)).mono ?_; rintro e w' ⟨rfl, rfl⟩))
  go_loop [12, 13, 14, 15, 16] (fun o b _ _ _ => ∃ j : Nat, j ≤ 63 ∧ o = .int .u64 (rtF s j) ∧ b = .int .u64 (bitJ j)) (fun _ b _ _ _ => (intOf b).toNat)
  case atStart => exact ⟨0, by omega, rfl, rfl⟩
  case round =>
    clear hA hB p1 p2
    obtain ⟨j, hj, rfl, rfl⟩ := hrel
    by_cases hlt : j ≤ 62
    · obtain ⟨r1, r2, r3, r4⟩ := R.out j hlt
      have d0 : decide (0 < bitJ j) = true := by simp [r2]
      have e1 := Lib.hid (bitJ_succ j)
      by_cases hc : (rtF s j + bitJ j) * (rtF s j + bitJ j) ≤ s
      · have E := Lib.hid (rtF_step_yes s j hc)
        by_cases h1 : (rtF s j + bitJ j) * (rtF s j + bitJ j) / 18446744073709551616 < s / 18446744073709551616
        · have d1 : decide ((rtF s j + bitJ j) * (rtF s j + bitJ j) / 18446744073709551616 < s / 18446744073709551616) = true := by simp [h1]
          clear hc h1
          go_wp2_with (go_at_call 39; refine (mul64w _ _ _ (by omega) (by omega) (by omega) (by omega)).mono ?_; rintro e w' ⟨rfl, rfl⟩)
          go_round
          case rel => exact ⟨j + 1, by omega, by rw [E.out], by rw [e1.out]⟩
          case measure => simp [intOf]; omega
        · have h2 : (rtF s j + bitJ j) * (rtF s j + bitJ j) / 18446744073709551616 = s / 18446744073709551616 := by omega
          have h3 : (rtF s j + bitJ j) * (rtF s j + bitJ j) % 18446744073709551616 ≤ s % 18446744073709551616 := by omega
          have d1 : decide ((rtF s j + bitJ j) * (rtF s j + bitJ j) / 18446744073709551616 < s / 18446744073709551616) = false := by simp; omega
          have d2 : ((rtF s j + bitJ j) * (rtF s j + bitJ j) / 18446744073709551616 == s / 18446744073709551616) = true := by simp [h2]
          have d3 : decide ((rtF s j + bitJ j) * (rtF s j + bitJ j) % 18446744073709551616 ≤ s % 18446744073709551616) = true := by simp [h3]
          clear hc h1 h2 h3
          go_wp2_with (go_at_call 39; refine (mul64w _ _ _ (by omega) (by omega) (by omega) (by omega)).mono ?_; rintro e w' ⟨rfl, rfl⟩)
          go_round
          case rel => exact ⟨j + 1, by omega, by rw [E.out], by rw [e1.out]⟩
          case measure => simp [intOf]; omega
      · have E := Lib.hid (rtF_step_no s j hc)
        have d1 : decide ((rtF s j + bitJ j) * (rtF s j + bitJ j) / 18446744073709551616 < s / 18446744073709551616) = false := by simp; omega
        by_cases h2 : (rtF s j + bitJ j) * (rtF s j + bitJ j) / 18446744073709551616 = s / 18446744073709551616
        · have h3 : ¬ (rtF s j + bitJ j) * (rtF s j + bitJ j) % 18446744073709551616 ≤ s % 18446744073709551616 := by omega
          have d2 : ((rtF s j + bitJ j) * (rtF s j + bitJ j) / 18446744073709551616 == s / 18446744073709551616) = true := by simp [h2]
          have d3 : decide ((rtF s j + bitJ j) * (rtF s j + bitJ j) % 18446744073709551616 ≤ s % 18446744073709551616) = false := by simp; omega
          clear hc h2 h3
          go_wp2_with (go_at_call 39; refine (mul64w _ _ _ (by omega) (by omega) (by omega) (by omega)).mono ?_; rintro e w' ⟨rfl, rfl⟩)
          go_round
          case rel => exact ⟨j + 1, by omega, by rw [E.out], by rw [e1.out]⟩
          case measure => simp [intOf]; omega
        · have d2 : ((rtF s j + bitJ j) * (rtF s j + bitJ j) / 18446744073709551616 == s / 18446744073709551616) = false := by simp [h2]
          clear hc h2
          go_wp2_with (go_at_call 39; refine (mul64w _ _ _ (by omega) (by omega) (by omega) (by omega)).mono ?_; rintro e w' ⟨rfl, rfl⟩)
          go_round
          case rel => exact ⟨j + 1, by omega, by rw [E.out], by rw [e1.out]⟩
          case measure => simp [intOf]; omega
    · have hj63 : j = 63 := by omega
      have z : bitJ j = 0 := by rw [hj63]; decide
      have d0 : decide (0 < bitJ j) = false := by rw [z]; decide
      have G := F.out
      have G2 := F2.out
      rw [← hj63] at G G2
      obtain ⟨g0, _, _, g1⟩ := G2
      clear z hj63 hlt hj
      by_cases h : rtF s j < 4611686018427387903
      · rw [if_pos h] at G
        have G3 := Lib.hid G
        clear G
        go_wp2
        go_ret
        exact ⟨ret_int (by have := G3.out; omega), rfl⟩
      · rw [if_neg h] at G
        have G3 := Lib.hid G
        clear G
        go_wp2
        all_goals
          go_ret
          exact ⟨ret_int (by have := G3.out; omega), rfl⟩

theorem may_yes (n : Int) (w : World) (h0 : -4611686018427387903 ≤ n) (h1 : n ≤ 4611686018427387903) :
    Calls Try.prog 32 #[.int .i64 (n)] w fun e w' => e = .returned (.bool true) ∧ w = w' := by
  refine (tmay_any n w).mono ?_
  rintro e w' ⟨rfl, hw⟩
  exact ⟨ret_bool (by simp; omega), hw⟩
theorem may_no (n : Int) (w : World) (h : ¬ (-4611686018427387903 ≤ n ∧ n ≤ 4611686018427387903)) :
    Calls Try.prog 32 #[.int .i64 (n)] w fun e w' => e = .returned (.bool false) ∧ w = w' := by
  refine (tmay_any n w).mono ?_
  rintro e w' ⟨rfl, hw⟩
  exact ⟨ret_bool (by simp only [decide_eq_false_iff_not]; exact h), hw⟩

/-- How far a place is, that may be. -/
theorem far_yes (x y : Int) (w : World) (x0 : -4611686018427387903 ≤ x) (x1 : x ≤ 4611686018427387903) (y0 : -4611686018427387903 ≤ y) (y1 : y ≤ 4611686018427387903) :
    Calls Try.prog 19 #[.int .i64 (x), .int .i64 (y)] w fun e w' => e = .returned (.tuple #[.int .i64 (far x y), .nilIface]) ∧ w = w' := by
  go_enter Try.func19, Try.ntmps19
  go_wp2_with (first
    | (go_at_call 32; refine (may_yes _ _ (by omega) (by omega)).mono ?_; rintro e w' ⟨rfl, rfl⟩)
    | (go_at_call 35; refine (root_any _ _ _ x0 x1 y0 y1).mono ?_; rintro e w' ⟨rfl, rfl⟩))
  go_ret2
  exact ⟨rfl, rfl⟩

theorem far_no (x y : Int) (w : World) (h : ¬ (-4611686018427387903 ≤ x ∧ x ≤ 4611686018427387903) ∨ ¬ (-4611686018427387903 ≤ y ∧ y ≤ 4611686018427387903)) :
    Calls Try.prog 19 #[.int .i64 (x), .int .i64 (y)] w fun e w' => e = .returned (.tuple #[.int .i64 (0), (.iface 65 (.int .i64 1))]) ∧ w = w' := by
  by_cases hx : -4611686018427387903 ≤ x ∧ x ≤ 4611686018427387903
  · have hy : ¬ (-4611686018427387903 ≤ y ∧ y ≤ 4611686018427387903) := by
      rcases h with h | h
      · exact absurd hx h
      · exact h
    have HX := Lib.hid hx
    have HY := Lib.hid hy
    clear h hx hy
    go_enter Try.func19, Try.ntmps19
    go_wp2_with (go_at_call 32; first | (with_reducible refine (may_yes x _ HX.out.1 HX.out.2).mono ?_; rintro e w' ⟨rfl, rfl⟩) | (with_reducible refine (may_no y _ HY.out).mono ?_; rintro e w' ⟨rfl, rfl⟩))
    go_ret2
    exact ⟨rfl, rfl⟩
  · have HX := Lib.hid hx
    clear h hx
    go_enter Try.func19, Try.ntmps19
    go_wp2_with (go_at_call 32; with_reducible refine (may_no x _ HX.out).mono ?_; rintro e w' ⟨rfl, rfl⟩)
    go_ret2
    exact ⟨rfl, rfl⟩

end Go.Proofs.Ythopiolbnhjgnaa
