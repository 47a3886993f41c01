/- The sine and the cosine of the program, walked. -/
import Derived.Test.YthopiolbnhjgnaaTrigA
set_option linter.unusedSimpArgs false
set_option linter.unusedVariables false
set_option maxRecDepth 20000
namespace Go.Proofs.Ythopiolbnhjgnaa
open Go.RowKit



set_option maxHeartbeats 4000000 in
theorem first_n (n : Nat) (n0 : 40 ≤ n) (n1 : n ≤ 40) (z : Int) (w : World) (hz : -1152921504606846976 ≤ z ∧ z ≤ 1152921504606846976) :
    Calls Try.prog 8 #[.int .i64 (z)] w fun e w' => e = .returned (.tuple #[.int .i64 (rnd (runZ z cstart cstart n).x), .int .i64 (rnd (runZ z cstart cstart n).y)]) ∧ Below w.heap.size w w' := by
  have OK := Lib.hid (runZ_ok z cstart cstart hz (by decide) (by decide))
  have IX := Lib.hid index_ang
  go_enter Try.func8, Try.ntmps8
  go_wp2_with (first
    | (go_at_call 21; refine (angles_any _).mono ?_; rintro e w1 ⟨rfl, hb1⟩; have z1 := hb1.size; (try simp at z1); have K := (Blk.new w _ _).below hb1; have c1 := Blk.cell K; have f1 := Blk.frozen K; have lc1 := Blk.lt K))
  go_loopw [9, 5, 6, 0] (fun i _ _ zz wr => ∃ j : Nat, j ≤ n ∧ i = .int .i64 (j) ∧ zz = .int .i64 ((runZ z cstart cstart j).z) ∧ Blk wr w.heap.size #[.int .i64 ((runZ z cstart cstart j).x), .int .i64 ((runZ z cstart cstart j).y)] ∧ Below w.heap.size w wr) (fun i _ _ _ _ => n - (intOf i).toNat)
  case atStart => exact ⟨0, by omega, rfl, rfl, K, (by repeat (first | with_reducible exact Below.refl _ _ | with_reducible refine Below.drew ?_ | with_reducible refine below_alloc ?_ _ | (with_reducible refine below_set ?_ ?_ _; rotate_left; (first | omega | (simp <;> omega))) | with_reducible refine below_drewN ?_ _ | with_reducible refine below_tr ?_ (by with_reducible assumption)))⟩
  case round =>
    clear K c1 f1 hb1 z1 lc1
    obtain ⟨j, hj, rfl, rfl, K, hb⟩ := hrel
    have cK := Blk.cell K; have fK := Blk.frozen K; have lcK := Blk.lt K
    by_cases hlt : j < n
    · have hi := IX.out j (by omega)
      have o1 := Tri.ok_64 (OK.out j) (by omega)
      by_cases hs : 0 ≤ (runZ z cstart cstart j).z
      · have o2 := Tri.ok_64 (OK.out (j + 1)) (by omega)
        have E := Lib.hid (show runZ z cstart cstart (j + 1) = (runZ z cstart cstart j).left j by simp only [runZ]; rw [if_pos hs])
        rw [E.out] at o2
        obtain ⟨o3, o4, ⟨o5, o6⟩⟩ := o2
        simp only [Tri.left] at o3 o4 o5 o6
        have O3 := Lib.hid (And.intro o3 o4)
        clear o3 o4 o1
        go_wp2_with (first
          | (go_at_call 22; refine (left_any _ _ j _ (by omega) O3.out).mono ?_; rintro e w2 ⟨rfl, hb2⟩; have z2 := hb2.size; (try simp at z2); have K2 := K.below hb2; have c2 := Blk.cell K2; have f2 := Blk.frozen K2; have lc2 := Blk.lt K2))
        go_roundw
        case rel =>
          refine ⟨j + 1, by omega, by go_num, by rw [E.out]; rfl, ?_, (by repeat (first | with_reducible exact Below.refl _ _ | with_reducible refine Below.drew ?_ | with_reducible refine below_alloc ?_ _ | (with_reducible refine below_set ?_ ?_ _; rotate_left; (first | omega | (simp <;> omega))) | with_reducible refine below_drewN ?_ _ | with_reducible refine below_tr ?_ (by with_reducible assumption)))⟩
          rw [E.out]
          simp only [Tri.left]
          exact (by repeat (first | with_reducible assumption | with_reducible exact Blk.new _ _ _ | with_reducible exact Blk.new1 _ _ _ _ | with_reducible exact Blk.new2 _ _ _ _ _ | with_reducible exact Blk.new3 _ _ _ _ _ _ | with_reducible refine Blk.drew ?_ | with_reducible refine Blk.alloc ?_ _ | with_reducible refine Blk.drewN ?_ _ | with_reducible apply Blk.put2 | with_reducible apply Blk.put3 | with_reducible apply Blk.put5 | (with_reducible refine Blk.far ?_ ?_ _; rotate_left; (first | omega | (simp <;> omega))) | with_reducible refine Blk.below ?_ (by with_reducible assumption)))
        case measure => simp [intOf]; omega
      · have hs' : ¬ 0 ≤ (runZ z cstart cstart j).z := hs
        have o2 := Tri.ok_64 (OK.out (j + 1)) (by omega)
        have E := Lib.hid (show runZ z cstart cstart (j + 1) = (runZ z cstart cstart j).right j by simp only [runZ]; rw [if_neg hs])
        rw [E.out] at o2
        obtain ⟨o3, o4, ⟨o5, o6⟩⟩ := o2
        simp only [Tri.right] at o3 o4 o5 o6
        have O3 := Lib.hid (And.intro o3 o4)
        clear o3 o4 o1
        go_wp2_with (first
          | (go_at_call 23; refine (right_any _ _ j _ (by omega) O3.out).mono ?_; rintro e w2 ⟨rfl, hb2⟩; have z2 := hb2.size; (try simp at z2); have K2 := K.below hb2; have c2 := Blk.cell K2; have f2 := Blk.frozen K2; have lc2 := Blk.lt K2))
        go_roundw
        case rel =>
          refine ⟨j + 1, by omega, by go_num, by rw [E.out]; rfl, ?_, (by repeat (first | with_reducible exact Below.refl _ _ | with_reducible refine Below.drew ?_ | with_reducible refine below_alloc ?_ _ | (with_reducible refine below_set ?_ ?_ _; rotate_left; (first | omega | (simp <;> omega))) | with_reducible refine below_drewN ?_ _ | with_reducible refine below_tr ?_ (by with_reducible assumption)))⟩
          rw [E.out]
          simp only [Tri.right]
          exact (by repeat (first | with_reducible assumption | with_reducible exact Blk.new _ _ _ | with_reducible exact Blk.new1 _ _ _ _ | with_reducible exact Blk.new2 _ _ _ _ _ | with_reducible exact Blk.new3 _ _ _ _ _ _ | with_reducible refine Blk.drew ?_ | with_reducible refine Blk.alloc ?_ _ | with_reducible refine Blk.drewN ?_ _ | with_reducible apply Blk.put2 | with_reducible apply Blk.put3 | with_reducible apply Blk.put5 | (with_reducible refine Blk.far ?_ ?_ _; rotate_left; (first | omega | (simp <;> omega))) | with_reducible refine Blk.below ?_ (by with_reducible assumption)))
        case measure => simp [intOf]; omega
    · have hj40 : (40 : Int) ≤ (j : Int) := by omega
      obtain rfl : j = n := by omega
      have o1 := Tri.ok_64 (OK.out j) (by omega)
      obtain ⟨o2, o3, o4⟩ := o1
      go_wp2
      go_region_with (go_at_call 24; refine (rounded_any _ _ (by assumption)).mono ?_; rintro e w2 ⟨rfl, hb2⟩; have z2 := hb2.size; (try simp at z2); (first | have K := Blk.below K hb2 | have K := Blk.below (Blk.drew K) hb2); have c2 := Blk.cell K; have f2 := Blk.frozen K; have lc2 := Blk.lt K)
      all_goals
        go_wp2
        go_ret2
        exact ⟨rfl, (by repeat (first | with_reducible exact Below.refl _ _ | with_reducible refine Below.drew ?_ | with_reducible refine below_alloc ?_ _ | (with_reducible refine below_set ?_ ?_ _; rotate_left; (first | omega | (simp <;> omega))) | with_reducible refine below_drewN ?_ _ | with_reducible refine below_tr ?_ (by with_reducible assumption)))⟩

theorem first_any (z : Int) (w : World) (hz : -1152921504606846976 ≤ z ∧ z ≤ 1152921504606846976) :
    Calls Try.prog 8 #[.int .i64 (z)] w fun e w' => e = .returned (.tuple #[.int .i64 (rnd (runZ z cstart cstart 40).x), .int .i64 (rnd (runZ z cstart cstart 40).y)]) ∧ Below w.heap.size w w' :=
  first_n 40 (Nat.le_refl _) (Nat.le_refl _) z w hz

theorem first_rest (t : Int) (w : World) :
    Calls Try.prog 8 #[.int .i64 (t % 1073741824 * 1073741824 - 576460752303423488)] w fun e w' => e = .returned (.tuple #[.int .i64 (cosQ t), .int .i64 (sinQ t)]) ∧ Below w.heap.size w w' :=
  first_any (rest t) w (rest_bd t)

theorem and30 (t : Int) (h0 : 0 ≤ t) (h1 : t ≤ 4294967295) : bits .and .u32 t 1073741823 = t % 1073741824 := by
  have h := bits_mask .u32 32 (by decide) (fun n a b => by rw [IntKind.wrap_u32]; omega) 30 (by decide) t h0 (by omega)
  exact h

theorem sc0 (t : Int) (h : t / 1073741824 = 0) : sinT t = sinQ t ∧ cosT t = cosQ t := by unfold sinT cosT; rw [if_pos h, if_pos h]; exact ⟨rfl, rfl⟩
theorem sc1 (t : Int) (h : t / 1073741824 = 1) : sinT t = cosQ t ∧ cosT t = -sinQ t := by unfold sinT cosT; rw [if_neg (by omega), if_pos h, if_neg (by omega), if_pos h]; exact ⟨rfl, rfl⟩
theorem sc2 (t : Int) (h : t / 1073741824 = 2) : sinT t = -sinQ t ∧ cosT t = -cosQ t := by
  unfold sinT cosT; rw [if_neg (by omega), if_neg (by omega), if_pos h, if_neg (by omega), if_neg (by omega), if_pos h]; exact ⟨rfl, rfl⟩
theorem sc3 (t : Int) (h : t / 1073741824 = 3) : sinT t = -cosQ t ∧ cosT t = sinQ t := by
  unfold sinT cosT; rw [if_neg (by omega), if_neg (by omega), if_neg (by omega), if_neg (by omega), if_neg (by omega), if_neg (by omega)]; exact ⟨rfl, rfl⟩

set_option maxHeartbeats 1000000 in
theorem both_0 (t : Int) (w : World) (h0 : 0 ≤ t) (h1 : t ≤ 4294967295) (h : t / 1073741824 = 0) :
    Calls Try.prog 4 #[.int .u32 t] w fun e w' => e = .returned (.tuple #[.int .i64 (sinT t), .int .i64 (cosT t)]) ∧ Below w.heap.size w w' := by
  have e := and30 t h0 h1
  obtain ⟨s0, s1⟩ := sinQ_bd t
  obtain ⟨c0, c1⟩ := cosQ_bd t
  have S := Lib.hid (sc0 t h)
  have d0 : (t / 1073741824 == 0) = true := by simp; omega
  have d1 : (t / 1073741824 == 1) = false := by simp; omega
  have d2 : (t / 1073741824 == 2) = false := by simp; omega
  clear h
  go_enter Try.func4, Try.ntmps4
  go_wp2_with (first
    | (go_at_call 8; refine (first_rest t _).mono ?_; rintro e w2 ⟨rfl, hb2⟩; have z2 := hb2.size; (try simp at z2)))
  go_ret2
  exact ⟨ret_ii S.out.1.symm S.out.2.symm, (by repeat (first | with_reducible exact Below.refl _ _ | with_reducible refine Below.drew ?_ | with_reducible refine below_alloc ?_ _ | (with_reducible refine below_set ?_ ?_ _; rotate_left; (first | omega | (simp <;> omega))) | with_reducible refine below_drewN ?_ _ | with_reducible refine below_tr ?_ (by with_reducible assumption)))⟩
set_option maxHeartbeats 1000000 in
theorem both_1 (t : Int) (w : World) (h0 : 0 ≤ t) (h1 : t ≤ 4294967295) (h : t / 1073741824 = 1) :
    Calls Try.prog 4 #[.int .u32 t] w fun e w' => e = .returned (.tuple #[.int .i64 (sinT t), .int .i64 (cosT t)]) ∧ Below w.heap.size w w' := by
  have e := and30 t h0 h1
  obtain ⟨s0, s1⟩ := sinQ_bd t
  obtain ⟨c0, c1⟩ := cosQ_bd t
  have S := Lib.hid (sc1 t h)
  have d0 : (t / 1073741824 == 0) = false := by simp; omega
  have d1 : (t / 1073741824 == 1) = true := by simp; omega
  have d2 : (t / 1073741824 == 2) = false := by simp; omega
  clear h
  go_enter Try.func4, Try.ntmps4
  go_wp2_with (first
    | (go_at_call 8; refine (first_rest t _).mono ?_; rintro e w2 ⟨rfl, hb2⟩; have z2 := hb2.size; (try simp at z2)))
  go_ret2
  exact ⟨ret_ii S.out.1.symm S.out.2.symm, (by repeat (first | with_reducible exact Below.refl _ _ | with_reducible refine Below.drew ?_ | with_reducible refine below_alloc ?_ _ | (with_reducible refine below_set ?_ ?_ _; rotate_left; (first | omega | (simp <;> omega))) | with_reducible refine below_drewN ?_ _ | with_reducible refine below_tr ?_ (by with_reducible assumption)))⟩
set_option maxHeartbeats 1000000 in
theorem both_2 (t : Int) (w : World) (h0 : 0 ≤ t) (h1 : t ≤ 4294967295) (h : t / 1073741824 = 2) :
    Calls Try.prog 4 #[.int .u32 t] w fun e w' => e = .returned (.tuple #[.int .i64 (sinT t), .int .i64 (cosT t)]) ∧ Below w.heap.size w w' := by
  have e := and30 t h0 h1
  obtain ⟨s0, s1⟩ := sinQ_bd t
  obtain ⟨c0, c1⟩ := cosQ_bd t
  have S := Lib.hid (sc2 t h)
  have d0 : (t / 1073741824 == 0) = false := by simp; omega
  have d1 : (t / 1073741824 == 1) = false := by simp; omega
  have d2 : (t / 1073741824 == 2) = true := by simp; omega
  clear h
  go_enter Try.func4, Try.ntmps4
  go_wp2_with (first
    | (go_at_call 8; refine (first_rest t _).mono ?_; rintro e w2 ⟨rfl, hb2⟩; have z2 := hb2.size; (try simp at z2)))
  go_ret2
  exact ⟨ret_ii S.out.1.symm S.out.2.symm, (by repeat (first | with_reducible exact Below.refl _ _ | with_reducible refine Below.drew ?_ | with_reducible refine below_alloc ?_ _ | (with_reducible refine below_set ?_ ?_ _; rotate_left; (first | omega | (simp <;> omega))) | with_reducible refine below_drewN ?_ _ | with_reducible refine below_tr ?_ (by with_reducible assumption)))⟩
set_option maxHeartbeats 1000000 in
theorem both_3 (t : Int) (w : World) (h0 : 0 ≤ t) (h1 : t ≤ 4294967295) (h : t / 1073741824 = 3) :
    Calls Try.prog 4 #[.int .u32 t] w fun e w' => e = .returned (.tuple #[.int .i64 (sinT t), .int .i64 (cosT t)]) ∧ Below w.heap.size w w' := by
  have e := and30 t h0 h1
  obtain ⟨s0, s1⟩ := sinQ_bd t
  obtain ⟨c0, c1⟩ := cosQ_bd t
  have S := Lib.hid (sc3 t h)
  have d0 : (t / 1073741824 == 0) = false := by simp; omega
  have d1 : (t / 1073741824 == 1) = false := by simp; omega
  have d2 : (t / 1073741824 == 2) = false := by simp; omega
  clear h
  go_enter Try.func4, Try.ntmps4
  go_wp2_with (first
    | (go_at_call 8; refine (first_rest t _).mono ?_; rintro e w2 ⟨rfl, hb2⟩; have z2 := hb2.size; (try simp at z2)))
  go_ret2
  exact ⟨ret_ii S.out.1.symm S.out.2.symm, (by repeat (first | with_reducible exact Below.refl _ _ | with_reducible refine Below.drew ?_ | with_reducible refine below_alloc ?_ _ | (with_reducible refine below_set ?_ ?_ _; rotate_left; (first | omega | (simp <;> omega))) | with_reducible refine below_drewN ?_ _ | with_reducible refine below_tr ?_ (by with_reducible assumption)))⟩

theorem both_any (t : Int) (w : World) (h0 : 0 ≤ t) (h1 : t ≤ 4294967295) :
    Calls Try.prog 4 #[.int .u32 t] w fun e w' => e = .returned (.tuple #[.int .i64 (sinT t), .int .i64 (cosT t)]) ∧ Below w.heap.size w w' := by
  have hq : t / 1073741824 = 0 ∨ t / 1073741824 = 1 ∨ t / 1073741824 = 2 ∨ t / 1073741824 = 3 := by omega
  rcases hq with hq | hq | hq | hq
  · exact both_0 t w h0 h1 hq
  · exact both_1 t w h0 h1 hq
  · exact both_2 t w h0 h1 hq
  · exact both_3 t w h0 h1 hq

/-- A size. -/
theorem tsize_any (n : Int) (w : World) (h0 : -9223372036854775807 ≤ n) (h1 : n ≤ 9223372036854775807) :
    Calls Try.prog 34 #[.int .i64 (n)] w fun e w' => e = .returned (.int .i64 ((n.natAbs : Int))) ∧ w = w' := by
  by_cases h : 0 ≤ n
  · have E := Lib.hid (show n = (n.natAbs : Int) by omega)
    go_enter Try.func34, Try.ntmps34
    go_wp2
    go_ret
    exact ⟨ret_int (by have := E.out; omega), rfl⟩
  · have E := Lib.hid (show -n = (n.natAbs : Int) by omega)
    go_enter Try.func34, Try.ntmps34
    go_wp2
    go_ret
    exact ⟨ret_int (by have := E.out; omega), rfl⟩

theorem tmay_any (n : Int) (w : World) :
    Calls Try.prog 32 #[.int .i64 (n)] w fun e w' => e = .returned (.bool (decide (-4611686018427387903 ≤ n ∧ n ≤ 4611686018427387903))) ∧ w = w' := by
  by_cases h : -4611686018427387903 ≤ n
  · go_enter Try.func32, Try.ntmps32
    go_wp2
    go_ret
    exact ⟨ret_bool (by simp [h]), rfl⟩
  · go_enter Try.func32, Try.ntmps32
    go_wp2
    go_ret
    exact ⟨ret_bool (by simp; omega), rfl⟩

end Go.Proofs.Ythopiolbnhjgnaa
