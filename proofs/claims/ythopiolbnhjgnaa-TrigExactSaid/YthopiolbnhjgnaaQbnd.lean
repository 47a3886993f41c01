/- The number layer: the bound, walked. -/
import Derived.Test.YthopiolbnhjgnaaQhalf
import Derived.Deep.CutBlock
set_option linter.unusedSimpArgs false
set_option linter.unusedVariables false
set_option maxRecDepth 20000
namespace Go.Proofs.Ythopiolbnhjgnaa
open Go.RowKit


theorem pointed_any (k : Int) (w : World) : Calls Try.prog 42 #[.int .i64 k] w fun e w' => e = .returned (.bool (decide (0 ≤ k ∧ k ≤ 62))) ∧ w = w' := by
  by_cases h : 0 ≤ k
  · go_enter Try.func42, Try.ntmps42
    go_wp2
    go_ret
    exact ⟨ret_bool (by simp [h]), rfl⟩
  · go_enter Try.func42, Try.ntmps42
    go_wp2
    go_ret
    exact ⟨ret_bool (by simp; omega), rfl⟩

theorem bnd_lo (n : Int) (h : n + 4611686018427387903 < 0) : bnd n = -4611686018427387903 ∧ ovr n = true := by
  unfold bnd ovr
  rw [if_pos (by omega)]
  exact ⟨rfl, by simp; omega⟩
theorem bnd_hi (n : Int) (h : ¬ n + -4611686018427387904 < 0) : bnd n = 4611686018427387903 ∧ ovr n = true := by
  unfold bnd ovr
  rw [if_neg (by omega), if_pos (by omega)]
  exact ⟨rfl, by simp; omega⟩
theorem bnd_in (n : Int) (h : ¬ n + 4611686018427387903 < 0) (h2 : n + -4611686018427387904 < 0) : bnd n = n ∧ ovr n = false := by
  unfold bnd ovr
  rw [if_neg (by omega), if_neg (by omega)]
  exact ⟨rfl, by simp; omega⟩
theorem back64 (n : Int) (h : ¬ n + 4611686018427387903 < 0) (h2 : n + -4611686018427387904 < 0) : wrap64 (W0 n) = n := by
  unfold wrap64 W0; omega

set_option maxHeartbeats 4000000 in
theorem bounded_any (n : Int) (w : World) (h0 : -3138550867693340381917894711603833208051177722232017256448 ≤ n + -4611686018427387904) (h1 : n + 4611686018427387903 < 3138550867693340381917894711603833208051177722232017256448) :
    Calls Try.prog 46 #[.agg #[.int .u64 (W0 (n)), .int .u64 (W1 (n)), .int .u64 (W2 (n))]] w fun e w' => e = .returned (.tuple #[.int .i64 (bnd n), .bool (ovr n)]) ∧ Below w.heap.size w w' := by
  have h2 : -3138550867693340381917894711603833208051177722232017256448 ≤ n + 4611686018427387903 := by omega
  have h3 : n + -4611686018427387904 < 3138550867693340381917894711603833208051177722232017256448 := by omega
  have H := Lib.hid (And.intro h0 (And.intro h1 (And.intro h2 h3)))
  clear h0 h1 h2 h3
  go_enter Try.func46, Try.ntmps46
  go_upto_region 1 with fail
  go_cut [4] (fun s4 wx => ∃ g : Nat, s4 = .pointer (some ⟨g, 0, none⟩) ∧ Blk wx g #[.int .u64 (W0 (n + 4611686018427387903)), .int .u64 (W1 (n + 4611686018427387903)), .int .u64 (W2 (n + 4611686018427387903))] ∧ Blk wx w.heap.size #[.int .u64 (W0 n), .int .u64 (W1 n), .int .u64 (W2 n)] ∧ Below w.heap.size w wx)
  case first =>
    go_region_with (first
      | (go_at_call 43; refine (of_any _ _ (by decide) (by decide)).mono ?_; rintro e w1 ⟨rfl, hb1⟩; have z1 := hb1.size; (try simp at z1); (first | (have K1 := (Blk.drew (Blk.alloc (Blk.new w _ _) _)).below hb1; have K1b := (Blk.drew (Blk.new1 w _ _ _)).below hb1; have c1 := Blk.cell K1; have f1 := Blk.frozen K1; have lc1 := Blk.lt K1; have c1b := Blk.cell K1b; have f1b := Blk.frozen K1b; have lc1b := Blk.lt K1b) | (have K1 := (Blk.drew (Blk.new w _ _)).below hb1; have c1 := Blk.cell K1; have f1 := Blk.frozen K1; have lc1 := Blk.lt K1)))
      | (go_at_call 47; refine (plus_any _ _ _).mono ?_; rintro e w2 ⟨rfl, hb2⟩; have z2 := hb2.size; (try simp at z2); (first | (have K2 := (Blk.alloc K1 _).below hb2; have K2b := (Blk.new w1 _ _).below hb2; have c2 := Blk.cell K2; have f2 := Blk.frozen K2; have lc2 := Blk.lt K2; have c2b := Blk.cell K2b; have f2b := Blk.frozen K2b; have lc2b := Blk.lt K2b) | (have K2 := K1.below hb2; have c2 := Blk.cell K2; have f2 := Blk.frozen K2; have lc2 := Blk.lt K2; (first | (have K2b := K1b.below hb2; have c2b := Blk.cell K2b; have f2b := Blk.frozen K2b; have lc2b := Blk.lt K2b) | skip)))))
    all_goals (go_wp2_with fail; go_meet; exact ⟨_, rfl, (by repeat (first | with_reducible assumption | with_reducible exact Blk.new _ _ _ | with_reducible exact Blk.new1 _ _ _ _ | with_reducible exact Blk.new2 _ _ _ _ _ | with_reducible exact Blk.new3 _ _ _ _ _ _ | with_reducible refine Blk.drew ?_ | with_reducible refine Blk.alloc ?_ _ | with_reducible refine Blk.drewN ?_ _ | with_reducible apply Blk.put2 | with_reducible apply Blk.put3 | with_reducible apply Blk.put5 | (with_reducible refine Blk.far ?_ ?_ _; rotate_left; (first | omega | (simp <;> omega))) | with_reducible refine Blk.below ?_ (by with_reducible assumption))), (by repeat (first | with_reducible assumption | with_reducible exact Blk.new _ _ _ | with_reducible exact Blk.new1 _ _ _ _ | with_reducible exact Blk.new2 _ _ _ _ _ | with_reducible exact Blk.new3 _ _ _ _ _ _ | with_reducible refine Blk.drew ?_ | with_reducible refine Blk.alloc ?_ _ | with_reducible refine Blk.drewN ?_ _ | with_reducible apply Blk.put2 | with_reducible apply Blk.put3 | with_reducible apply Blk.put5 | (with_reducible refine Blk.far ?_ ?_ _; rotate_left; (first | omega | (simp <;> omega))) | with_reducible refine Blk.below ?_ (by with_reducible assumption))), (by repeat (first | with_reducible exact Below.refl _ _ | with_reducible refine Below.drew ?_ | with_reducible refine below_alloc ?_ _ | (with_reducible refine below_set ?_ ?_ _; rotate_left; (first | omega | (simp <;> omega))) | with_reducible refine below_drewN ?_ _ | with_reducible refine below_tr ?_ (by with_reducible assumption)))⟩)
  case rest =>
    obtain ⟨g, rfl, K0, K, hb0⟩ := hcut
    have c0 := Blk.cell K0; have f0 := Blk.frozen K0; have lc0 := Blk.lt K0
    have c := Blk.cell K; have f := Blk.frozen K; have lc := Blk.lt K
    go_upto_region 2 with fail
    go_cut [5] (fun s5 wx => ∃ g2 : Nat, s5 = .pointer (some ⟨g2, 0, none⟩) ∧ Blk wx g2 #[.int .u64 (W0 (n + -4611686018427387904)), .int .u64 (W1 (n + -4611686018427387904)), .int .u64 (W2 (n + -4611686018427387904))] ∧ Blk wx w.heap.size #[.int .u64 (W0 n), .int .u64 (W1 n), .int .u64 (W2 n)] ∧ Blk wx g #[.int .u64 (W0 (n + 4611686018427387903)), .int .u64 (W1 (n + 4611686018427387903)), .int .u64 (W2 (n + 4611686018427387903))] ∧ Below w.heap.size w wx)
    case first =>
      go_region_with (first
        | (go_at_call 43; refine (of_any _ _ (by decide) (by decide)).mono ?_; rintro e w1 ⟨rfl, hb1⟩; have z1 := hb1.size; (try simp at z1); (first | (have K1 := (Blk.drew (Blk.alloc K _)).below hb1; have K1g := (Blk.drew (Blk.alloc K0 _)).below hb1; have K1b := (Blk.drew (Blk.new wc _ _)).below hb1; have c1 := Blk.cell K1; have f1 := Blk.frozen K1; have lc1 := Blk.lt K1; have c1b := Blk.cell K1b; have f1b := Blk.frozen K1b; have lc1b := Blk.lt K1b) | (have K1 := (Blk.drew K).below hb1; have K1g := (Blk.drew K0).below hb1; have c1 := Blk.cell K1; have f1 := Blk.frozen K1; have lc1 := Blk.lt K1)))
        | (go_at_call 47; refine (plus_any _ _ _).mono ?_; rintro e w2 ⟨rfl, hb2⟩; have z2 := hb2.size; (try simp at z2); (first | (have K2 := (Blk.alloc K1 _).below hb2; have K2b := (Blk.new w1 _ _).below hb2; have c2 := Blk.cell K2; have f2 := Blk.frozen K2; have lc2 := Blk.lt K2; have c2b := Blk.cell K2b; have f2b := Blk.frozen K2b; have lc2b := Blk.lt K2b) | (have K2 := K1.below hb2; have c2 := Blk.cell K2; have f2 := Blk.frozen K2; have lc2 := Blk.lt K2; (first | (have K2b := K1b.below hb2; have c2b := Blk.cell K2b; have f2b := Blk.frozen K2b; have lc2b := Blk.lt K2b) | skip)))))
      all_goals (go_wp2_with fail; go_meet; exact ⟨_, rfl, (by repeat (first | with_reducible assumption | with_reducible exact Blk.new _ _ _ | with_reducible exact Blk.new1 _ _ _ _ | with_reducible exact Blk.new2 _ _ _ _ _ | with_reducible exact Blk.new3 _ _ _ _ _ _ | with_reducible refine Blk.drew ?_ | with_reducible refine Blk.alloc ?_ _ | with_reducible refine Blk.drewN ?_ _ | with_reducible apply Blk.put2 | with_reducible apply Blk.put3 | with_reducible apply Blk.put5 | (with_reducible refine Blk.far ?_ ?_ _; rotate_left; (first | omega | (simp <;> omega))) | with_reducible refine Blk.below ?_ (by with_reducible assumption))), (by repeat (first | with_reducible assumption | with_reducible exact Blk.new _ _ _ | with_reducible exact Blk.new1 _ _ _ _ | with_reducible exact Blk.new2 _ _ _ _ _ | with_reducible exact Blk.new3 _ _ _ _ _ _ | with_reducible refine Blk.drew ?_ | with_reducible refine Blk.alloc ?_ _ | with_reducible refine Blk.drewN ?_ _ | with_reducible apply Blk.put2 | with_reducible apply Blk.put3 | with_reducible apply Blk.put5 | (with_reducible refine Blk.far ?_ ?_ _; rotate_left; (first | omega | (simp <;> omega))) | with_reducible refine Blk.below ?_ (by with_reducible assumption))), (by repeat (first | with_reducible assumption | with_reducible exact Blk.new _ _ _ | with_reducible exact Blk.new1 _ _ _ _ | with_reducible exact Blk.new2 _ _ _ _ _ | with_reducible exact Blk.new3 _ _ _ _ _ _ | with_reducible refine Blk.drew ?_ | with_reducible refine Blk.alloc ?_ _ | with_reducible refine Blk.drewN ?_ _ | with_reducible apply Blk.put2 | with_reducible apply Blk.put3 | with_reducible apply Blk.put5 | (with_reducible refine Blk.far ?_ ?_ _; rotate_left; (first | omega | (simp <;> omega))) | with_reducible refine Blk.below ?_ (by with_reducible assumption))), (by repeat (first | with_reducible exact Below.refl _ _ | with_reducible refine Below.drew ?_ | with_reducible refine below_alloc ?_ _ | (with_reducible refine below_set ?_ ?_ _; rotate_left; (first | omega | (simp <;> omega))) | with_reducible refine below_drewN ?_ _ | with_reducible refine below_tr ?_ (by with_reducible assumption)))⟩)
    case rest =>
      clear c0 f0 c f lc0 lc
      obtain ⟨g2, rfl, K2, K3, K4, hb2⟩ := hcut
      have c2 := Blk.cell K2; have f2 := Blk.frozen K2; have lc2 := Blk.lt K2
      have c3 := Blk.cell K3; have f3 := Blk.frozen K3; have lc3 := Blk.lt K3
      have c4 := Blk.cell K4; have f4 := Blk.frozen K4; have lc4 := Blk.lt K4
      by_cases t1 : n + 4611686018427387903 < 0
      · have R := Lib.hid (bnd_lo n t1)
        have d1 : decide (n + 4611686018427387903 < 0) = true := by simp [t1]
        clear t1
        go_wp2_with (first | (go_at_call 50; refine (below_any (n + 4611686018427387903) _ H.out.2.2.1 H.out.2.1).mono ?_; rintro e w1 ⟨rfl, hb1⟩; have K5 := K2.below hb1; have c5 := Blk.cell K5; have f5 := Blk.frozen K5; have lc5 := Blk.lt K5))
        go_ret2
        exact ⟨ret_ib R.out.1.symm R.out.2.symm, (by repeat (first | with_reducible exact Below.refl _ _ | with_reducible refine Below.drew ?_ | with_reducible refine below_alloc ?_ _ | (with_reducible refine below_set ?_ ?_ _; rotate_left; (first | omega | (simp <;> omega))) | with_reducible refine below_drewN ?_ _ | with_reducible refine below_tr ?_ (by with_reducible assumption)))⟩
      · by_cases t2 : n + -4611686018427387904 < 0
        · have R := Lib.hid (bnd_in n t1 t2)
          have R2 := Lib.hid (back64 n t1 t2)
          have d1 : decide (n + 4611686018427387903 < 0) = false := by simp; omega
          have d2 : decide (n + -4611686018427387904 < 0) = true := by simp [t2]
          clear t1 t2
          go_wp2_with (first | (go_at_call 50; refine (below_any (n + 4611686018427387903) _ H.out.2.2.1 H.out.2.1).mono ?_; rintro e w1 ⟨rfl, hb1⟩; have K5 := K2.below hb1; have K6 := K3.below hb1; have c5 := Blk.cell K5; have f5 := Blk.frozen K5; have lc5 := Blk.lt K5; have c6 := Blk.cell K6; have f6 := Blk.frozen K6; have lc6 := Blk.lt K6) | (go_at_call 50; refine (below_any (n + -4611686018427387904) _ H.out.1 H.out.2.2.2).mono ?_; rintro e w3 ⟨rfl, hb3⟩; have K7 := K6.below hb3; have c7 := Blk.cell K7; have f7 := Blk.frozen K7; have lc7 := Blk.lt K7))
          go_ret2
          exact ⟨ret_ib (R2.out.trans R.out.1.symm) R.out.2.symm, (by repeat (first | with_reducible exact Below.refl _ _ | with_reducible refine Below.drew ?_ | with_reducible refine below_alloc ?_ _ | (with_reducible refine below_set ?_ ?_ _; rotate_left; (first | omega | (simp <;> omega))) | with_reducible refine below_drewN ?_ _ | with_reducible refine below_tr ?_ (by with_reducible assumption)))⟩
        · have R := Lib.hid (bnd_hi n t2)
          have d1 : decide (n + 4611686018427387903 < 0) = false := by simp; omega
          have d2 : decide (n + -4611686018427387904 < 0) = false := by simp; omega
          clear t1 t2
          go_wp2_with (first | (go_at_call 50; refine (below_any (n + 4611686018427387903) _ H.out.2.2.1 H.out.2.1).mono ?_; rintro e w1 ⟨rfl, hb1⟩; have K5 := K2.below hb1; have K6 := K3.below hb1; have c5 := Blk.cell K5; have f5 := Blk.frozen K5; have lc5 := Blk.lt K5; have c6 := Blk.cell K6; have f6 := Blk.frozen K6; have lc6 := Blk.lt K6) | (go_at_call 50; refine (below_any (n + -4611686018427387904) _ H.out.1 H.out.2.2.2).mono ?_; rintro e w3 ⟨rfl, hb3⟩; have K7 := K6.below hb3; have c7 := Blk.cell K7; have f7 := Blk.frozen K7; have lc7 := Blk.lt K7))
          go_ret2
          exact ⟨ret_ib R.out.1.symm R.out.2.symm, (by repeat (first | with_reducible exact Below.refl _ _ | with_reducible refine Below.drew ?_ | with_reducible refine below_alloc ?_ _ | (with_reducible refine below_set ?_ ?_ _; rotate_left; (first | omega | (simp <;> omega))) | with_reducible refine below_drewN ?_ _ | with_reducible refine below_tr ?_ (by with_reducible assumption)))⟩

end Go.Proofs.Ythopiolbnhjgnaa
