/- The number layer: sums of products, walked. -/
import Derived.Test.YthopiolbnhjgnaaQbnd
set_option linter.unusedSimpArgs false
set_option linter.unusedVariables false
set_option maxRecDepth 20000
namespace Go.Proofs.Ythopiolbnhjgnaa
open Go.RowKit


theorem pointed_ok (k : Nat) (w : World) (h : k ≤ 62) : Calls Try.prog 42 #[.int .i64 k] w fun e w' => e = .returned (.bool true) ∧ w = w' := by
  refine (pointed_any _ w).mono ?_
  rintro e w' ⟨rfl, hw⟩
  exact ⟨ret_bool (by simp; omega), hw⟩

set_option maxHeartbeats 4000000 in
theorem dot_some (b o c b2 o2 c2 n k : Nat) (x y : Nat → Int) (w : World) (hn : n ≤ 64) (hk : k ≤ 62)
    (hx : ∀ i, i < n → w.cell? ⟨b, o + i, none⟩ = some (.int .i64 (x i))) (hy : ∀ i, i < n → w.cell? ⟨b2, o2 + i, none⟩ = some (.int .i64 (y i)))
    (bx : ∀ i, i < n → I64 (x i)) (bY : ∀ i, i < n → I64 (y i)) (h0 : 0 < n) :
    Calls Try.prog 41 #[.slice (some ⟨b, o, none⟩) n c, .slice (some ⟨b2, o2, none⟩) n c2, .int .i64 k] w fun e w' =>
      e = .returned (.tuple #[.int .i64 (bnd (rq (dotS x y n) (2 ^ k))), .bool (ovr (rq (dotS x y n) (2 ^ k))), .nilIface]) ∧ Below w.heap.size w w' := by
  have HX := Lib.hid hx
  have HY := Lib.hid hy
  have BX := Lib.hid bx
  have BY := Lib.hid bY
  clear hx hy bx bY
  have hn' : (n : Int) ≤ 64 := by omega
  go_enter Try.func41, Try.ntmps41
  go_wp2_with (first | (go_at_call 42; refine (pointed_ok _ _ hk).mono ?_; rintro e w' ⟨rfl, rfl⟩))
  go_loopw [32, 10, 11] (fun i _ _ wr => ∃ j : Nat, j ≤ n ∧ i = .int .i64 j ∧ Blk wr w.heap.size #[.int .u64 (W0 (dotS x y j)), .int .u64 (W1 (dotS x y j)), .int .u64 (W2 (dotS x y j))] ∧ Below w.heap.size w wr) (fun i _ _ _ => n - (intOf i).toNat)
  case atStart => exact ⟨0, by omega, rfl, Blk.new w #[.int .u64 0, .int .u64 0, .int .u64 0] _, (by repeat (first | with_reducible exact Below.refl _ _ | with_reducible refine Below.drew ?_ | with_reducible refine below_alloc ?_ _ | (with_reducible refine below_set ?_ ?_ _; rotate_left; (first | omega | (simp <;> omega))) | with_reducible refine below_drewN ?_ _ | with_reducible refine below_tr ?_ (by with_reducible assumption)))⟩
  case round =>
    obtain ⟨j, hj, rfl, K, hb⟩ := hrel
    by_cases hlt : j < n
    · have cx := (hb.cell (World.block_lt_of_cell? w _ (HX.out j hlt))).trans (HX.out j hlt)
      have cy := (hb.cell (World.block_lt_of_cell? w _ (HY.out j hlt))).trans (HY.out j hlt)
      have cK := Blk.cell K; have fK := Blk.frozen K; have lcK := Blk.lt K
      have bx := BX.out j hlt
      have bY := BY.out j hlt
      go_wp2
      go_region_with (first
        | (go_at_call 44; refine (product_any _ _ _ bx.1 bx.2 bY.1 bY.2).mono ?_; rintro e w1 ⟨rfl, hb1⟩; have K1 := (Blk.drew K).below hb1; have c1 := Blk.cell K1; have f1 := Blk.frozen K1; have lc1 := Blk.lt K1)
        | (go_at_call 47; refine (plus_any _ _ _).mono ?_; rintro e w2 ⟨rfl, hb2⟩; have K2 := K1.below hb2; have c2 := Blk.cell K2; have f2 := Blk.frozen K2; have lc2 := Blk.lt K2))
      all_goals
        go_wp2
        go_roundw
        case rel => exact ⟨j + 1, by omega, by go_num, (by show Blk _ _ #[.int .u64 (W0 (dotS x y j + x j * y j)), .int .u64 (W1 (dotS x y j + x j * y j)), .int .u64 (W2 (dotS x y j + x j * y j))]; exact (by repeat (first | with_reducible assumption | with_reducible exact Blk.new _ _ _ | with_reducible exact Blk.new1 _ _ _ _ | with_reducible exact Blk.new2 _ _ _ _ _ | with_reducible exact Blk.new3 _ _ _ _ _ _ | with_reducible refine Blk.drew ?_ | with_reducible refine Blk.alloc ?_ _ | with_reducible refine Blk.drewN ?_ _ | with_reducible apply Blk.put2 | with_reducible apply Blk.put3 | with_reducible apply Blk.put5 | (with_reducible refine Blk.far ?_ ?_ _; rotate_left; (first | omega | (simp <;> omega))) | with_reducible refine Blk.below ?_ (by with_reducible assumption)))), (by repeat (first | with_reducible exact Below.refl _ _ | with_reducible refine Below.drew ?_ | with_reducible refine below_alloc ?_ _ | (with_reducible refine below_set ?_ ?_ _; rotate_left; (first | omega | (simp <;> omega))) | with_reducible refine below_drewN ?_ _ | with_reducible refine below_tr ?_ (by with_reducible assumption)))⟩
        case measure => simp [intOf]; omega
    · have hjn : j = n := by omega
      obtain rfl : j = n := hjn
      have D := Lib.hid (dot_in x y j k hn BX.out BY.out)
      have cK := Blk.cell K; have fK := Blk.frozen K; have lcK := Blk.lt K
      go_wp2_with (first
        | (go_at_call 45; refine (half_any _ k _ hk D.out.1.1 D.out.1.2).mono ?_; rintro e w1 ⟨rfl, hb1⟩)
        | (go_at_call 46; refine (bounded_any _ _ D.out.2.1 D.out.2.2).mono ?_; rintro e w2 ⟨rfl, hb2⟩))
      go_ret3
      exact ⟨rfl, (by repeat (first | with_reducible exact Below.refl _ _ | with_reducible refine Below.drew ?_ | with_reducible refine below_alloc ?_ _ | (with_reducible refine below_set ?_ ?_ _; rotate_left; (first | omega | (simp <;> omega))) | with_reducible refine below_drewN ?_ _ | with_reducible refine below_tr ?_ (by with_reducible assumption)))⟩
end Go.Proofs.Ythopiolbnhjgnaa
