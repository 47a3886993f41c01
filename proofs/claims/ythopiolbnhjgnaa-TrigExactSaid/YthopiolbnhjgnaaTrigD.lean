/- The angle of a place, and the place at a direction, walked. -/
import Derived.Test.YthopiolbnhjgnaaTrigC
set_option linter.unusedSimpArgs false
set_option linter.unusedVariables false
set_option maxRecDepth 20000
namespace Go.Proofs.Ythopiolbnhjgnaa
open Go.RowKit



set_option maxHeartbeats 2000000 in
theorem scaled_any (x y : Int) (w : World) (hx : 0 ≤ x ∧ x ≤ 4611686018427387903) (hy : 0 ≤ y ∧ y ≤ 4611686018427387903) (n : 1 ≤ x ∨ 1 ≤ y) :
    Calls Try.prog 38 #[.int .i64 (x), .int .i64 (y)] w fun e w' => e = .returned (.tuple #[.int .i64 ((scaleF x y).1), .int .i64 ((scaleF x y).2)]) ∧ w = w' := by
  have D0 := down_start x y hx hy n
  obtain ⟨D, hD⟩ : ∃ D, D = downF 2 x y := ⟨_, rfl⟩
  rw [← hD] at D0
  have US := Lib.hid (fun (f : Nat) (a b : Int) h c => up_start (a := a) (b := b) (D := D) (f := f) x y hD h c)
  clear hD n
  obtain ⟨U, hU⟩ : ∃ U, U = scaleF x y := ⟨_, rfl⟩
  rw [← hU] at US
  rw [← hU]
  clear hU
  go_enter Try.func38, Try.ntmps38
  go_wp2
  go_loop [0, 1] (fun u v => ∃ (f : Nat) (a b : Int), DownAt D f a b ∧ u = .int .i64 (a) ∧ v = .int .i64 (b) ∧ a ≤ 4611686018427387903 ∧ b ≤ 4611686018427387903) (fun u v => (intOf u).toNat + (intOf v).toNat)
  case atStart => exact ⟨2, x, y, D0, rfl, rfl, hx.2, hy.2⟩
  case round =>
    clear D0
    obtain ⟨f, a, b, A, rfl, rfl, la, lb⟩ := hrel
    have a0 := A.2.1
    have b0 := A.2.2.1
    by_cases hc : 1152921504606846976 ≤ a ∨ 1152921504606846976 ≤ b
    · obtain ⟨g, _, A2⟩ := A.step hc
      by_cases hab : a < b
      · have h1 : 1152921504606846976 ≤ b := by omega
        clear hc
        go_wp2
        go_round
        case rel => exact ⟨g, a / 2, b / 2, A2, rfl, rfl, by omega, by omega⟩
        case measure => simp [intOf]; omega
      · have h1 : 1152921504606846976 ≤ a := by omega
        clear hc
        go_wp2
        go_round
        case rel => exact ⟨g, a / 2, b / 2, A2, rfl, rfl, by omega, by omega⟩
        case measure => simp [intOf]; omega
    · have A2 := US.out f a b A hc
      have hab : a < 1152921504606846976 := by omega
      have hbb : b < 1152921504606846976 := by omega
      clear hc A
      by_cases hlt : a < b
      all_goals
        go_wp2
        go_loop [0, 1] (fun u v => ∃ (f : Nat) (a b : Int), UpAt U f a b ∧ u = .int .i64 (a) ∧ v = .int .i64 (b)) (fun u v => (1152921504606846976 - intOf u).toNat + (1152921504606846976 - intOf v).toNat)
        case atStart => exact ⟨60, a, b, A2, rfl, rfl⟩
        case round =>
          clear A2 hab hbb la lb a0 b0 hlt
          obtain ⟨f, a, b, A, rfl, rfl⟩ := hrel
          have a0 := A.2.1
          have b0 := A.2.2.1
          have a1 := A.2.2.2.1
          have b1 := A.2.2.2.2.1
          have a2 := A.2.2.2.2.2
          by_cases hc : a < 576460752303423488 ∧ b < 576460752303423488
          · obtain ⟨g, _, A2⟩ := A.step hc
            obtain ⟨hc1, hc2⟩ := hc
            have nz : 0 < a ∨ 0 < b := by
              have h := A.2.2.2.2.2
              rcases h with h | h
              · left
                by_cases z : a = 0
                · rw [z, Int.zero_mul] at h; omega
                · omega
              · right
                by_cases z : b = 0
                · rw [z, Int.zero_mul] at h; omega
                · omega
            clear a2
            by_cases hlt : a < b
            · clear A
              go_wp2
              go_round
              case rel => exact ⟨g, a * 2, b * 2, A2, rfl, rfl⟩
              case measure => simp [intOf]; omega
            · clear A
              go_wp2
              go_round
              case rel => exact ⟨g, a * 2, b * 2, A2, rfl, rfl⟩
              case measure => simp [intOf]; omega
          · have E := Lib.hid (A.stop hc)
            clear a2
            by_cases hlt : a < b
            · have h1 : ¬ b < 576460752303423488 := by omega
              clear A hc
              go_wp2
              go_ret2
              exact ⟨by rw [E.out]; rfl, rfl⟩
            · have h1 : ¬ a < 576460752303423488 := by omega
              clear A hc
              go_wp2
              go_ret2
              exact ⟨by rw [E.out]; rfl, rfl⟩


set_option maxHeartbeats 4000000 in
theorem from_n (n : Nat) (n0 : 40 ≤ n) (n1 : n ≤ 40) (x y : Int) (w : World) (hx : 0 ≤ x ∧ x ≤ 4611686018427387903) (hy : 0 ≤ y ∧ y ≤ 4611686018427387903) (nz : 1 ≤ x ∨ 1 ≤ y) :
    Calls Try.prog 33 #[.int .i64 (x), .int .i64 (y)] w fun e w' => e = .returned (.int .u32 (clampQ (rnd (runY (scaleF x y).1 (scaleF x y).2 n).z))) ∧ Below w.heap.size w w' := by
  have bd := scaleF_bd x y hx hy nz
  have SC := Lib.hid (scaled_any x y · hx hy nz)
  obtain ⟨u, hu⟩ : ∃ u, (scaleF x y).1 = u := ⟨_, rfl⟩
  obtain ⟨v, hv⟩ : ∃ v, (scaleF x y).2 = v := ⟨_, rfl⟩
  rw [hu, hv] at bd SC ⊢
  clear hu hv
  obtain ⟨b0, b1, b2, b3, _⟩ := bd
  have OK := Lib.hid (runY_ok u v ⟨by omega, by omega⟩ ⟨by omega, by omega⟩)
  have IX := Lib.hid index_ang
  go_enter Try.func33, Try.ntmps33
  go_wp2_with (first
    | (go_at_call 38; refine (SC.out _).mono ?_; rintro e w' ⟨rfl, rfl⟩)
    | (go_at_call 21; refine (angles_any _).mono ?_; rintro e w1 ⟨rfl, hb1⟩; have z1 := hb1.size; (try simp at z1); have K := (Blk.new w _ _).below hb1; have c1 := Blk.cell K; have f1 := Blk.frozen K; have lc1 := Blk.lt K))
  go_loopw [19, 6, 7, 8] (fun i zz _ _ wr => ∃ j : Nat, j ≤ n ∧ i = .int .i64 (j) ∧ zz = .int .i64 ((runY u v j).z) ∧ Blk wr w.heap.size #[.int .i64 ((runY u v j).x), .int .i64 ((runY u v j).y)] ∧ Below w.heap.size w wr) (fun i _ _ _ _ => n - (intOf i).toNat)
  case atStart => exact ⟨0, by omega, rfl, rfl, K, (by repeat (first | with_reducible exact Below.refl _ _ | with_reducible refine Below.drew ?_ | with_reducible refine below_alloc ?_ _ | (with_reducible refine below_set ?_ ?_ _; rotate_left; (first | omega | (simp <;> omega))) | with_reducible refine below_drewN ?_ _ | with_reducible refine below_tr ?_ (by with_reducible assumption)))⟩
  case round =>
    clear K c1 f1 hb1 z1 lc1
    obtain ⟨j, hj, rfl, rfl, K, hb⟩ := hrel
    have cK := Blk.cell K; have fK := Blk.frozen K; have lcK := Blk.lt K
    by_cases hlt : j < n
    · have hi := IX.out j (by omega)
      have o1 := Tri.ok_64 (OK.out j) (by omega)
      by_cases hs : 0 < (runY u v j).y
      · have o2 := Tri.ok_64 (OK.out (j + 1)) (by omega)
        have E := Lib.hid (show runY u v (j + 1) = (runY u v j).right j by simp only [runY]; rw [if_pos hs])
        rw [E.out] at o2
        obtain ⟨o3, o4, ⟨o5, o6⟩⟩ := o2
        simp only [Tri.right] at o3 o4 o5 o6
        have O3 := Lib.hid (And.intro o3 o4)
        clear o3 o4 o1
        go_wp2_with (first
          | (go_at_call 23; refine (right_any _ _ j _ (by omega) O3.out).mono ?_; rintro e w2 ⟨rfl, hb2⟩; have z2 := hb2.size; (try simp at z2); have K2 := K.below hb2; have c2 := Blk.cell K2; have f2 := Blk.frozen K2; have lc2 := Blk.lt K2))
        go_roundw
        case rel =>
          refine ⟨j + 1, by omega, by go_num, by rw [E.out]; rfl, ?_, (by repeat (first | with_reducible exact Below.refl _ _ | with_reducible refine Below.drew ?_ | with_reducible refine below_alloc ?_ _ | (with_reducible refine below_set ?_ ?_ _; rotate_left; (first | omega | (simp <;> omega))) | with_reducible refine below_drewN ?_ _ | with_reducible refine below_tr ?_ (by with_reducible assumption)))⟩
          rw [E.out]
          simp only [Tri.right]
          exact (by repeat (first | with_reducible assumption | with_reducible exact Blk.new _ _ _ | with_reducible exact Blk.new1 _ _ _ _ | with_reducible exact Blk.new2 _ _ _ _ _ | with_reducible exact Blk.new3 _ _ _ _ _ _ | with_reducible refine Blk.drew ?_ | with_reducible refine Blk.alloc ?_ _ | with_reducible refine Blk.drewN ?_ _ | with_reducible apply Blk.put2 | with_reducible apply Blk.put3 | with_reducible apply Blk.put5 | (with_reducible refine Blk.far ?_ ?_ _; rotate_left; (first | omega | (simp <;> omega))) | with_reducible refine Blk.below ?_ (by with_reducible assumption)))
        case measure => simp [intOf]; omega
      · have hs' : ¬ 0 < (runY u v j).y := hs
        have o2 := Tri.ok_64 (OK.out (j + 1)) (by omega)
        have E := Lib.hid (show runY u v (j + 1) = (runY u v j).left j by simp only [runY]; rw [if_neg hs])
        rw [E.out] at o2
        obtain ⟨o3, o4, ⟨o5, o6⟩⟩ := o2
        simp only [Tri.left] at o3 o4 o5 o6
        have O3 := Lib.hid (And.intro o3 o4)
        clear o3 o4 o1
        go_wp2_with (first
          | (go_at_call 22; refine (left_any _ _ j _ (by omega) O3.out).mono ?_; rintro e w2 ⟨rfl, hb2⟩; have z2 := hb2.size; (try simp at z2); have K2 := K.below hb2; have c2 := Blk.cell K2; have f2 := Blk.frozen K2; have lc2 := Blk.lt K2))
        go_roundw
        case rel =>
          refine ⟨j + 1, by omega, by go_num, by rw [E.out]; rfl, ?_, (by repeat (first | with_reducible exact Below.refl _ _ | with_reducible refine Below.drew ?_ | with_reducible refine below_alloc ?_ _ | (with_reducible refine below_set ?_ ?_ _; rotate_left; (first | omega | (simp <;> omega))) | with_reducible refine below_drewN ?_ _ | with_reducible refine below_tr ?_ (by with_reducible assumption)))⟩
          rw [E.out]
          simp only [Tri.left]
          exact (by repeat (first | with_reducible assumption | with_reducible exact Blk.new _ _ _ | with_reducible exact Blk.new1 _ _ _ _ | with_reducible exact Blk.new2 _ _ _ _ _ | with_reducible exact Blk.new3 _ _ _ _ _ _ | with_reducible refine Blk.drew ?_ | with_reducible refine Blk.alloc ?_ _ | with_reducible refine Blk.drewN ?_ _ | with_reducible apply Blk.put2 | with_reducible apply Blk.put3 | with_reducible apply Blk.put5 | (with_reducible refine Blk.far ?_ ?_ _; rotate_left; (first | omega | (simp <;> omega))) | with_reducible refine Blk.below ?_ (by with_reducible assumption)))
        case measure => simp [intOf]; omega
    · have hj40 : (40 : Int) ≤ (j : Int) := by omega
      obtain rfl : j = n := by omega
      have o1 := Tri.ok_64 (OK.out j) (by omega)
      obtain ⟨o2, o3, o4⟩ := o1
      by_cases t1 : rnd (runY u v j).z < 0
      · have R := Lib.hid (show clampQ (rnd (runY u v j).z) = 0 by unfold clampQ; rw [if_pos t1])
        go_wp2_with (go_at_call 24; refine (rounded_any _ _ (by assumption)).mono ?_; rintro e w2 ⟨rfl, hb2⟩; have z2 := hb2.size; (try simp at z2))
        go_ret
        exact ⟨ret_int (by have := R.out; omega), (by repeat (first | with_reducible exact Below.refl _ _ | with_reducible refine Below.drew ?_ | with_reducible refine below_alloc ?_ _ | (with_reducible refine below_set ?_ ?_ _; rotate_left; (first | omega | (simp <;> omega))) | with_reducible refine below_drewN ?_ _ | with_reducible refine below_tr ?_ (by with_reducible assumption)))⟩
      · by_cases t2 : 1073741824 < rnd (runY u v j).z
        · have R := Lib.hid (show clampQ (rnd (runY u v j).z) = 1073741824 by unfold clampQ; rw [if_neg t1, if_pos t2])
          go_wp2_with (go_at_call 24; refine (rounded_any _ _ (by assumption)).mono ?_; rintro e w2 ⟨rfl, hb2⟩; have z2 := hb2.size; (try simp at z2))
          go_ret
          exact ⟨ret_int (by have := R.out; omega), (by repeat (first | with_reducible exact Below.refl _ _ | with_reducible refine Below.drew ?_ | with_reducible refine below_alloc ?_ _ | (with_reducible refine below_set ?_ ?_ _; rotate_left; (first | omega | (simp <;> omega))) | with_reducible refine below_drewN ?_ _ | with_reducible refine below_tr ?_ (by with_reducible assumption)))⟩
        · have R := Lib.hid (show clampQ (rnd (runY u v j).z) = rnd (runY u v j).z by unfold clampQ; rw [if_neg t1, if_neg t2])
          go_wp2_with (go_at_call 24; refine (rounded_any _ _ (by assumption)).mono ?_; rintro e w2 ⟨rfl, hb2⟩; have z2 := hb2.size; (try simp at z2))
          all_goals
            go_ret
            exact ⟨ret_int (by have := R.out; omega), (by repeat (first | with_reducible exact Below.refl _ _ | with_reducible refine Below.drew ?_ | with_reducible refine below_alloc ?_ _ | (with_reducible refine below_set ?_ ?_ _; rotate_left; (first | omega | (simp <;> omega))) | with_reducible refine below_drewN ?_ _ | with_reducible refine below_tr ?_ (by with_reducible assumption)))⟩

theorem from_any (x y : Int) (w : World) (hx : 0 ≤ x ∧ x ≤ 4611686018427387903) (hy : 0 ≤ y ∧ y ≤ 4611686018427387903) (nz : 1 ≤ x ∨ 1 ≤ y) :
    Calls Try.prog 33 #[.int .i64 (x), .int .i64 (y)] w fun e w' => e = .returned (.int .u32 (angF x y)) ∧ Below w.heap.size w w' :=
  from_n 40 (Nat.le_refl _) (Nat.le_refl _) x y w hx hy nz

theorem ret_iv {k : IntKind} {a b : Int} {v : Value} (h : a = b) : Ending.returned (.tuple #[.int k a, v]) = .returned (.tuple #[.int k b, v]) := by rw [h]
theorem angT_a (x y : Int) (c1 : 0 ≤ x) (c2 : 0 ≤ y) (c3 : True) : angT x y = angF (y.natAbs : Int) (x.natAbs : Int) := by unfold angT; rw [if_pos ⟨c1, c2⟩]
theorem angT_b (x y : Int) (c1 : 0 ≤ x) (c2 : y < 0) (c3 : True) : angT x y = 2147483648 - angF (y.natAbs : Int) (x.natAbs : Int) := by unfold angT; rw [if_neg (by omega), if_pos c1]
theorem angT_c (x y : Int) (c1 : x < 0) (c2 : y < 0) (c3 : True) : angT x y = 2147483648 + angF (y.natAbs : Int) (x.natAbs : Int) := by unfold angT; rw [if_neg (by omega), if_neg (by omega), if_pos c2]
theorem angT_d (x y : Int) (c1 : x < 0) (c2 : 0 ≤ y) (c3 : True) : angT x y = (4294967296 - angF (y.natAbs : Int) (x.natAbs : Int)) % 4294967296 := by unfold angT; rw [if_neg (by omega), if_neg (by omega), if_neg (by omega)]


set_option maxHeartbeats 1000000 in
theorem angle_a1 (x y : Int) (w : World) (x0 : -4611686018427387903 ≤ x) (x1 : x ≤ 4611686018427387903) (y0 : -4611686018427387903 ≤ y) (y1 : y ≤ 4611686018427387903) (nz : ¬ (x = 0 ∧ y = 0)) (c1 : 0 < x) (c2 : 0 ≤ y) (c3 : True) :
    Calls Try.prog 18 #[.int .i64 (x), .int .i64 (y)] w fun e w' => e = .returned (.tuple #[.int .u32 (angT x y), .nilIface]) ∧ Below w.heap.size w w' := by
  have b := angF_bd (y.natAbs : Int) (x.natAbs : Int)
  have E := Lib.hid (show angT x y = _ from angT_a x y (by omega) (by omega) trivial)
  have F := Lib.hid (from_any (y.natAbs : Int) (x.natAbs : Int) · (by omega) (by omega) (by omega))
  obtain ⟨a, ha⟩ : ∃ a, angF (y.natAbs : Int) (x.natAbs : Int) = a := ⟨_, rfl⟩
  rw [ha] at b E F
  clear ha
  obtain ⟨b0, b1⟩ := b
  have d1 : (x == 0) = false := by simp; omega
  go_enter Try.func18, Try.ntmps18
  go_wp2_with (first
    | (go_at_call 32; refine (may_yes _ _ (by omega) (by omega)).mono ?_; rintro e w' ⟨rfl, rfl⟩)
    | (go_at_call 34; refine (tsize_any _ _ (by omega) (by omega)).mono ?_; rintro e w' ⟨rfl, rfl⟩)
    | (go_at_call 33; refine (F.out _).mono ?_; rintro e w2 ⟨rfl, hb2⟩; have z2 := hb2.size; (try simp at z2)))
  go_ret2
  exact ⟨ret_iv (by have := E.out; omega), (by repeat (first | with_reducible exact Below.refl _ _ | with_reducible refine Below.drew ?_ | with_reducible refine below_alloc ?_ _ | (with_reducible refine below_set ?_ ?_ _; rotate_left; (first | omega | (simp <;> omega))) | with_reducible refine below_drewN ?_ _ | with_reducible refine below_tr ?_ (by with_reducible assumption)))⟩
set_option maxHeartbeats 1000000 in
theorem angle_a2 (x y : Int) (w : World) (x0 : -4611686018427387903 ≤ x) (x1 : x ≤ 4611686018427387903) (y0 : -4611686018427387903 ≤ y) (y1 : y ≤ 4611686018427387903) (nz : ¬ (x = 0 ∧ y = 0)) (c1 : x = 0) (c2 : 0 < y) (c3 : True) :
    Calls Try.prog 18 #[.int .i64 (x), .int .i64 (y)] w fun e w' => e = .returned (.tuple #[.int .u32 (angT x y), .nilIface]) ∧ Below w.heap.size w w' := by
  have b := angF_bd (y.natAbs : Int) (x.natAbs : Int)
  have E := Lib.hid (show angT x y = _ from angT_a x y (by omega) (by omega) trivial)
  have F := Lib.hid (from_any (y.natAbs : Int) (x.natAbs : Int) · (by omega) (by omega) (by omega))
  obtain ⟨a, ha⟩ : ∃ a, angF (y.natAbs : Int) (x.natAbs : Int) = a := ⟨_, rfl⟩
  rw [ha] at b E F
  clear ha
  obtain ⟨b0, b1⟩ := b
  (have d1 : (x == 0) = true := by simp [c1]); (have d2 : (y == 0) = false := by simp; omega); (have d3 : 0 ≤ x := by omega); clear c1
  go_enter Try.func18, Try.ntmps18
  go_wp2_with (first
    | (go_at_call 32; refine (may_yes _ _ (by omega) (by omega)).mono ?_; rintro e w' ⟨rfl, rfl⟩)
    | (go_at_call 34; refine (tsize_any _ _ (by omega) (by omega)).mono ?_; rintro e w' ⟨rfl, rfl⟩)
    | (go_at_call 33; refine (F.out _).mono ?_; rintro e w2 ⟨rfl, hb2⟩; have z2 := hb2.size; (try simp at z2)))
  go_ret2
  exact ⟨ret_iv (by have := E.out; omega), (by repeat (first | with_reducible exact Below.refl _ _ | with_reducible refine Below.drew ?_ | with_reducible refine below_alloc ?_ _ | (with_reducible refine below_set ?_ ?_ _; rotate_left; (first | omega | (simp <;> omega))) | with_reducible refine below_drewN ?_ _ | with_reducible refine below_tr ?_ (by with_reducible assumption)))⟩
set_option maxHeartbeats 1000000 in
theorem angle_b1 (x y : Int) (w : World) (x0 : -4611686018427387903 ≤ x) (x1 : x ≤ 4611686018427387903) (y0 : -4611686018427387903 ≤ y) (y1 : y ≤ 4611686018427387903) (nz : ¬ (x = 0 ∧ y = 0)) (c1 : 0 < x) (c2 : y < 0) (c3 : True) :
    Calls Try.prog 18 #[.int .i64 (x), .int .i64 (y)] w fun e w' => e = .returned (.tuple #[.int .u32 (angT x y), .nilIface]) ∧ Below w.heap.size w w' := by
  have b := angF_bd (y.natAbs : Int) (x.natAbs : Int)
  have E := Lib.hid (show angT x y = _ from angT_b x y (by omega) (by omega) trivial)
  have F := Lib.hid (from_any (y.natAbs : Int) (x.natAbs : Int) · (by omega) (by omega) (by omega))
  obtain ⟨a, ha⟩ : ∃ a, angF (y.natAbs : Int) (x.natAbs : Int) = a := ⟨_, rfl⟩
  rw [ha] at b E F
  clear ha
  obtain ⟨b0, b1⟩ := b
  have d1 : (x == 0) = false := by simp; omega
  go_enter Try.func18, Try.ntmps18
  go_wp2_with (first
    | (go_at_call 32; refine (may_yes _ _ (by omega) (by omega)).mono ?_; rintro e w' ⟨rfl, rfl⟩)
    | (go_at_call 34; refine (tsize_any _ _ (by omega) (by omega)).mono ?_; rintro e w' ⟨rfl, rfl⟩)
    | (go_at_call 33; refine (F.out _).mono ?_; rintro e w2 ⟨rfl, hb2⟩; have z2 := hb2.size; (try simp at z2)))
  go_ret2
  exact ⟨ret_iv (by have := E.out; omega), (by repeat (first | with_reducible exact Below.refl _ _ | with_reducible refine Below.drew ?_ | with_reducible refine below_alloc ?_ _ | (with_reducible refine below_set ?_ ?_ _; rotate_left; (first | omega | (simp <;> omega))) | with_reducible refine below_drewN ?_ _ | with_reducible refine below_tr ?_ (by with_reducible assumption)))⟩
set_option maxHeartbeats 1000000 in
theorem angle_b2 (x y : Int) (w : World) (x0 : -4611686018427387903 ≤ x) (x1 : x ≤ 4611686018427387903) (y0 : -4611686018427387903 ≤ y) (y1 : y ≤ 4611686018427387903) (nz : ¬ (x = 0 ∧ y = 0)) (c1 : x = 0) (c2 : y < 0) (c3 : True) :
    Calls Try.prog 18 #[.int .i64 (x), .int .i64 (y)] w fun e w' => e = .returned (.tuple #[.int .u32 (angT x y), .nilIface]) ∧ Below w.heap.size w w' := by
  have b := angF_bd (y.natAbs : Int) (x.natAbs : Int)
  have E := Lib.hid (show angT x y = _ from angT_b x y (by omega) (by omega) trivial)
  have F := Lib.hid (from_any (y.natAbs : Int) (x.natAbs : Int) · (by omega) (by omega) (by omega))
  obtain ⟨a, ha⟩ : ∃ a, angF (y.natAbs : Int) (x.natAbs : Int) = a := ⟨_, rfl⟩
  rw [ha] at b E F
  clear ha
  obtain ⟨b0, b1⟩ := b
  (have d1 : (x == 0) = true := by simp [c1]); (have d2 : (y == 0) = false := by simp; omega); (have d3 : 0 ≤ x := by omega); clear c1
  go_enter Try.func18, Try.ntmps18
  go_wp2_with (first
    | (go_at_call 32; refine (may_yes _ _ (by omega) (by omega)).mono ?_; rintro e w' ⟨rfl, rfl⟩)
    | (go_at_call 34; refine (tsize_any _ _ (by omega) (by omega)).mono ?_; rintro e w' ⟨rfl, rfl⟩)
    | (go_at_call 33; refine (F.out _).mono ?_; rintro e w2 ⟨rfl, hb2⟩; have z2 := hb2.size; (try simp at z2)))
  go_ret2
  exact ⟨ret_iv (by have := E.out; omega), (by repeat (first | with_reducible exact Below.refl _ _ | with_reducible refine Below.drew ?_ | with_reducible refine below_alloc ?_ _ | (with_reducible refine below_set ?_ ?_ _; rotate_left; (first | omega | (simp <;> omega))) | with_reducible refine below_drewN ?_ _ | with_reducible refine below_tr ?_ (by with_reducible assumption)))⟩
set_option maxHeartbeats 1000000 in
theorem angle_c (x y : Int) (w : World) (x0 : -4611686018427387903 ≤ x) (x1 : x ≤ 4611686018427387903) (y0 : -4611686018427387903 ≤ y) (y1 : y ≤ 4611686018427387903) (nz : ¬ (x = 0 ∧ y = 0)) (c1 : x < 0) (c2 : y < 0) (c3 : True) :
    Calls Try.prog 18 #[.int .i64 (x), .int .i64 (y)] w fun e w' => e = .returned (.tuple #[.int .u32 (angT x y), .nilIface]) ∧ Below w.heap.size w w' := by
  have b := angF_bd (y.natAbs : Int) (x.natAbs : Int)
  have E := Lib.hid (show angT x y = _ from angT_c x y (by omega) (by omega) trivial)
  have F := Lib.hid (from_any (y.natAbs : Int) (x.natAbs : Int) · (by omega) (by omega) (by omega))
  obtain ⟨a, ha⟩ : ∃ a, angF (y.natAbs : Int) (x.natAbs : Int) = a := ⟨_, rfl⟩
  rw [ha] at b E F
  clear ha
  obtain ⟨b0, b1⟩ := b
  have d1 : (x == 0) = false := by simp; omega
  go_enter Try.func18, Try.ntmps18
  go_wp2_with (first
    | (go_at_call 32; refine (may_yes _ _ (by omega) (by omega)).mono ?_; rintro e w' ⟨rfl, rfl⟩)
    | (go_at_call 34; refine (tsize_any _ _ (by omega) (by omega)).mono ?_; rintro e w' ⟨rfl, rfl⟩)
    | (go_at_call 33; refine (F.out _).mono ?_; rintro e w2 ⟨rfl, hb2⟩; have z2 := hb2.size; (try simp at z2)))
  go_ret2
  exact ⟨ret_iv (by have := E.out; omega), (by repeat (first | with_reducible exact Below.refl _ _ | with_reducible refine Below.drew ?_ | with_reducible refine below_alloc ?_ _ | (with_reducible refine below_set ?_ ?_ _; rotate_left; (first | omega | (simp <;> omega))) | with_reducible refine below_drewN ?_ _ | with_reducible refine below_tr ?_ (by with_reducible assumption)))⟩
set_option maxHeartbeats 1000000 in
theorem angle_d (x y : Int) (w : World) (x0 : -4611686018427387903 ≤ x) (x1 : x ≤ 4611686018427387903) (y0 : -4611686018427387903 ≤ y) (y1 : y ≤ 4611686018427387903) (nz : ¬ (x = 0 ∧ y = 0)) (c1 : x < 0) (c2 : 0 ≤ y) (c3 : True) :
    Calls Try.prog 18 #[.int .i64 (x), .int .i64 (y)] w fun e w' => e = .returned (.tuple #[.int .u32 (angT x y), .nilIface]) ∧ Below w.heap.size w w' := by
  have b := angF_bd (y.natAbs : Int) (x.natAbs : Int)
  have E := Lib.hid (show angT x y = _ from angT_d x y (by omega) (by omega) trivial)
  have F := Lib.hid (from_any (y.natAbs : Int) (x.natAbs : Int) · (by omega) (by omega) (by omega))
  obtain ⟨a, ha⟩ : ∃ a, angF (y.natAbs : Int) (x.natAbs : Int) = a := ⟨_, rfl⟩
  rw [ha] at b E F
  clear ha
  obtain ⟨b0, b1⟩ := b
  have d1 : (x == 0) = false := by simp; omega
  go_enter Try.func18, Try.ntmps18
  go_wp2_with (first
    | (go_at_call 32; refine (may_yes _ _ (by omega) (by omega)).mono ?_; rintro e w' ⟨rfl, rfl⟩)
    | (go_at_call 34; refine (tsize_any _ _ (by omega) (by omega)).mono ?_; rintro e w' ⟨rfl, rfl⟩)
    | (go_at_call 33; refine (F.out _).mono ?_; rintro e w2 ⟨rfl, hb2⟩; have z2 := hb2.size; (try simp at z2)))
  go_ret2
  exact ⟨ret_iv (by have := E.out; omega), (by repeat (first | with_reducible exact Below.refl _ _ | with_reducible refine Below.drew ?_ | with_reducible refine below_alloc ?_ _ | (with_reducible refine below_set ?_ ?_ _; rotate_left; (first | omega | (simp <;> omega))) | with_reducible refine below_drewN ?_ _ | with_reducible refine below_tr ?_ (by with_reducible assumption)))⟩

theorem angle_any (x y : Int) (w : World) (x0 : -4611686018427387903 ≤ x) (x1 : x ≤ 4611686018427387903) (y0 : -4611686018427387903 ≤ y) (y1 : y ≤ 4611686018427387903) (nz : ¬ (x = 0 ∧ y = 0)) :
    Calls Try.prog 18 #[.int .i64 (x), .int .i64 (y)] w fun e w' => e = .returned (.tuple #[.int .u32 (angT x y), .nilIface]) ∧ Below w.heap.size w w' := by
  by_cases hx : x < 0
  · by_cases hy : y < 0
    · exact angle_c x y w x0 x1 y0 y1 nz hx hy trivial
    · exact angle_d x y w x0 x1 y0 y1 nz hx (by omega) trivial
  · by_cases hz : x = 0
    · by_cases hy : y < 0
      · exact angle_b2 x y w x0 x1 y0 y1 nz hz hy trivial
      · exact angle_a2 x y w x0 x1 y0 y1 nz hz (by omega) trivial
    · by_cases hy : y < 0
      · exact angle_b1 x y w x0 x1 y0 y1 nz (by omega) hy trivial
      · exact angle_a1 x y w x0 x1 y0 y1 nz (by omega) (by omega) trivial

theorem angle_nought (w : World) :
    Calls Try.prog 18 #[.int .i64 (0), .int .i64 (0)] w fun e w' => e = .returned (.tuple #[.int .u32 0, (.iface 65 (.int .i64 11))]) ∧ w = w' := by
  go_enter Try.func18, Try.ntmps18
  go_wp2_with (first
    | (go_at_call 32; refine (may_yes _ _ (by omega) (by omega)).mono ?_; rintro e w' ⟨rfl, rfl⟩))
  go_ret2
  exact ⟨rfl, rfl⟩

theorem angle_no (x y : Int) (w : World) (h : ¬ (-4611686018427387903 ≤ x ∧ x ≤ 4611686018427387903) ∨ ¬ (-4611686018427387903 ≤ y ∧ y ≤ 4611686018427387903)) :
    Calls Try.prog 18 #[.int .i64 (x), .int .i64 (y)] w fun e w' => e = .returned (.tuple #[.int .u32 0, (.iface 65 (.int .i64 1))]) ∧ w = w' := by
  by_cases hx : -4611686018427387903 ≤ x ∧ x ≤ 4611686018427387903
  · have hy : ¬ (-4611686018427387903 ≤ y ∧ y ≤ 4611686018427387903) := by
      rcases h with h | h
      · exact absurd hx h
      · exact h
    have HX := Lib.hid hx
    have HY := Lib.hid hy
    clear h hx hy
    go_enter Try.func18, Try.ntmps18
    go_wp2_with (go_at_call 32; first | (with_reducible refine (may_yes x _ HX.out.1 HX.out.2).mono ?_; rintro e w' ⟨rfl, rfl⟩) | (with_reducible refine (may_no y _ HY.out).mono ?_; rintro e w' ⟨rfl, rfl⟩))
    go_ret2
    exact ⟨rfl, rfl⟩
  · have HX := Lib.hid hx
    clear h hx
    go_enter Try.func18, Try.ntmps18
    go_wp2_with (go_at_call 32; with_reducible refine (may_no x _ HX.out).mono ?_; rintro e w' ⟨rfl, rfl⟩)
    go_ret2
    exact ⟨rfl, rfl⟩

/-- The place at a direction, so far away. -/
def placeX (t r : Int) : Int := bnd (rq (r * sinT t) (2 ^ 30))
def placeY (t r : Int) : Int := bnd (rq (r * cosT t) (2 ^ 30))
theorem sinT_bd (t : Int) : I64 (sinT t) := by
  have := sinQ_bd t
  have := cosQ_bd t
  unfold I64 sinT
  (repeat' split) <;> omega
theorem cosT_bd (t : Int) : I64 (cosT t) := by
  have := sinQ_bd t
  have := cosQ_bd t
  unfold I64 cosT
  (repeat' split) <;> omega

theorem mul30 (a b : Int) (w : World) (ha : I64 a) (hb : I64 b) :
    Calls Try.prog 36 #[.int .i64 (a), .int .i64 (b), .int .i64 (30)] w fun e w' =>
      e = .returned (.tuple #[.int .i64 (bnd (rq (a * b) (2 ^ 30))), .bool (ovr (rq (a * b) (2 ^ 30))), .nilIface]) ∧ Below w.heap.size w w' := mul_any a b 30 w (by decide) ha hb

set_option maxHeartbeats 1000000 in
theorem place_any (t r : Int) (w : World) (t0 : 0 ≤ t) (t1 : t ≤ 4294967295) (r0 : 0 ≤ r) (r1 : r ≤ 4611686018427387903) :
    Calls Try.prog 20 #[.int .u32 t, .int .i64 (r)] w fun e w' => e = .returned (.tuple #[.int .i64 (placeX t r), .int .i64 (placeY t r), .nilIface]) ∧ Below w.heap.size w w' := by
  have SB := Lib.hid (sinT_bd t)
  have CB := Lib.hid (cosT_bd t)
  have RB := Lib.hid (show I64 r by unfold I64; omega)
  go_enter Try.func20, Try.ntmps20
  go_wp2_with (first
    | (go_at_call 4; refine (both_any t _ t0 t1).mono ?_; rintro e w2 ⟨rfl, hb2⟩; have z2 := hb2.size; (try simp at z2))
    | (go_at_call 36; ((with_reducible refine (mul30 _ _ _ RB.out SB.out).mono ?_); rintro e w2 ⟨rfl, hb2⟩; have z2 := hb2.size; (try simp at z2)))
    | (go_at_call 36; ((with_reducible refine (mul30 _ _ _ RB.out CB.out).mono ?_); rintro e w3 ⟨rfl, hb3⟩; have z3 := hb3.size; (try simp at z3))))
  go_ret3
  exact ⟨rfl, (by repeat (first | with_reducible exact Below.refl _ _ | with_reducible refine Below.drew ?_ | with_reducible refine below_alloc ?_ _ | (with_reducible refine below_set ?_ ?_ _; rotate_left; (first | omega | (simp <;> omega))) | with_reducible refine below_drewN ?_ _ | with_reducible refine below_tr ?_ (by with_reducible assumption)))⟩

theorem place_no (t r : Int) (w : World) (h : ¬ (0 ≤ r ∧ r ≤ 4611686018427387903)) :
    Calls Try.prog 20 #[.int .u32 t, .int .i64 (r)] w fun e w' => e = .returned (.tuple #[.int .i64 (0), .int .i64 (0), (.iface 65 (.int .i64 1))]) ∧ w = w' := by
  by_cases hr : r < 0
  · clear h
    go_enter Try.func20, Try.ntmps20
    go_wp2
    go_ret3
    exact ⟨rfl, rfl⟩
  · have h2 : 4611686018427387903 < r := by omega
    clear h
    go_enter Try.func20, Try.ntmps20
    go_wp2
    go_ret3
    exact ⟨rfl, rfl⟩

end Go.Proofs.Ythopiolbnhjgnaa
