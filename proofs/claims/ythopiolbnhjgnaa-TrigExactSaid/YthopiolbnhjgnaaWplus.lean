/- Wide numbers of the reference: sums and differences of sizes, walked. -/
import Derived.Test.YthopiolbnhjgnaaWide
set_option linter.unusedSimpArgs false
set_option linter.unusedVariables false
set_option maxRecDepth 20000
namespace Go.Proofs.Ythopiolbnhjgnaa
open Go.RowKit



/-- A slice that reads as numbers, with room enough. -/
def SlD (w : World) (A : Option Addr) (c : Nat) (xs : List Int) : Prop := xs.length ≤ c ∧ xs.length ≤ 100000 ∧ Dg w A xs ∧ Digs xs

/-- Digits behind a result, in a block of the call's own. -/
def RetF (n : Nat) (w : World) (e : Ending) (w' : World) : Prop := ∃ A c, e = .returned (.slice A (dg n).length c) ∧ (dg n).length ≤ c ∧ Dg w' A (dg n) ∧ Below w.heap.size w w' ∧ ∀ b o, A = some ⟨b, o, none⟩ → w.heap.size ≤ b
theorem ret_slice {A : Option Addr} {n m c : Nat} (h : n = m) : Ending.returned (.slice A n c) = .returned (.slice A m c) := by rw [h]
set_option maxHeartbeats 1000000 in
theorem wplus_any (A B : Option Addr) (c1 c2 : Nat) (xs ys : List Int) (w : World) (ha : SlD w A c1 xs) (hb : SlD w B c2 ys) :
    Calls Try.prog 29 #[.slice A xs.length c1, .slice B ys.length c2] w (RetD (val xs + val ys).toNat w) := by
  obtain ⟨i0, hi0, hz0, hz1, hz2⟩ := info_parts info_int
  obtain ⟨ha1, ha2, ha3, ha4⟩ := ha
  obtain ⟨hb1', hb2, hb3, hb4⟩ := hb
  have HA := Lib.hid ha3
  have HB := Lib.hid hb3
  have DA := Lib.hid ha4
  have DB := Lib.hid hb4
  clear ha3 hb3 ha4 hb4
  go_enter Try.func29, Try.ntmps29
  go_wp2
  go_loopw [5, 6, 7] (fun out cv iv wr => ∃ (j : Nat) (ds : List Int) (cc : Int), iv = .int .i64 (j) ∧ cv = .int .i64 (cc) ∧ PlusAt xs ys ds j cc ∧ ds.length = j ∧ (j ≤ xs.length ∨ j ≤ ys.length) ∧ wr.ownsRow w.heap.size 3 1 out ds.length (ds.map (Value.int .i64)) ∧ Below w.heap.size w wr) (fun _ _ iv _ => xs.length + ys.length - (intOf iv).toNat)
  case atStart => exact ⟨0, [], 0, rfl, rfl, PlusAt.zero _ _, rfl, Or.inl (Nat.zero_le _), World.ownsRow_nil _ _ _ _, (by repeat (first | with_reducible exact Below.refl _ _ | with_reducible refine Below.drew ?_ | with_reducible refine below_alloc ?_ _ | (with_reducible refine below_set ?_ ?_ _; rotate_left; (first | omega | (simp <;> omega))) | with_reducible refine below_drewN ?_ _ | with_reducible refine below_tr ?_ (by with_reducible assumption)))⟩
  case round =>
    obtain ⟨j, ds, cc, rfl, rfl, PA, hlen, hj, hown, hb⟩ := hrel
    have hB := hb.size
    have hjm : j ≤ 100000 := by omega
    have c0 := PA.2.2.1
    have cl := PA.2.2.2.1
    by_cases hx : j < xs.length
    · obtain ⟨b1, o1, rfl, k1⟩ := HA.out j hx
      have k1 := (hb.cell (World.block_lt_of_cell? w _ k1)).trans k1
      have d1 := DA.out.at j hx
      obtain ⟨d10, d11⟩ := d1
      by_cases hy : j < ys.length
      · obtain ⟨b2, o2, rfl, k2⟩ := HB.out j hy
        have k2 := (hb.cell (World.block_lt_of_cell? w _ k2)).trans k2
        have d2 := DB.out.at j hy
        obtain ⟨d20, d21⟩ := d2
        have S0 := PA.step (xs[j] + ys[j]) (by omega) (by omega) (plus_e2 j hx hy)
        (try rw [← Int.add_assoc] at S0)
        have S := Lib.hid S0
        clear PA S0
        go_wp2_with (at_builtin; refine wpList_append_own _ rfl _ _ 26 rfl (w.heap.size) 3 i0 (.int .i64 0) 1 8 Try.underlying26 hi0 hz0 hz1 hz2 rfl (by decide) _ _ _ rfl (hown.alloc _) ⟨wr.heap.size, 0, none⟩ 1 1 [.int .i64 ((cc + xs[j] + ys[j]) % 10)] rfl rfl (one_new _ _ _) (one_cell1 _ _) ?c3 ?c4 ?c5 ?_; (case c3 => (unfold maxLen; omega)); (case c4 => omega); (case c5 => (simp; omega)); intro v1 w1 hown1 hg1 _; have hb1 := below_grown (below_alloc hb _) hg1 (hown.alloc _) (by omega); rw [List.map_snoc] at hown1)
        go_roundw
        case rel => exact ⟨j + 1, _, _, by go_num, rfl, S.out, by rw [List.length_append, hlen]; rfl, by omega, by rw [List.length_append]; exact hown1, hb1⟩
        case measure => simp [intOf]; omega
      · have S0 := PA.step (xs[j]) (by omega) (by omega) (plus_ex j hx (by omega))
        (try rw [← Int.add_assoc] at S0)
        have S := Lib.hid S0
        clear PA S0
        go_wp2_with (at_builtin; refine wpList_append_own _ rfl _ _ 26 rfl (w.heap.size) 3 i0 (.int .i64 0) 1 8 Try.underlying26 hi0 hz0 hz1 hz2 rfl (by decide) _ _ _ rfl (hown.alloc _) ⟨wr.heap.size, 0, none⟩ 1 1 [.int .i64 ((cc + xs[j]) % 10)] rfl rfl (one_new _ _ _) (one_cell1 _ _) ?c3 ?c4 ?c5 ?_; (case c3 => (unfold maxLen; omega)); (case c4 => omega); (case c5 => (simp; omega)); intro v1 w1 hown1 hg1 _; have hb1 := below_grown (below_alloc hb _) hg1 (hown.alloc _) (by omega); rw [List.map_snoc] at hown1)
        go_roundw
        case rel => exact ⟨j + 1, _, _, by go_num, rfl, S.out, by rw [List.length_append, hlen]; rfl, by omega, by rw [List.length_append]; exact hown1, hb1⟩
        case measure => simp [intOf]; omega
    · by_cases hy : j < ys.length
      · obtain ⟨b2, o2, rfl, k2⟩ := HB.out j hy
        have k2 := (hb.cell (World.block_lt_of_cell? w _ k2)).trans k2
        have d2 := DB.out.at j hy
        obtain ⟨d20, d21⟩ := d2
        have S0 := PA.step (ys[j]) (by omega) (by omega) (plus_ey j (by omega) hy)
        (try rw [← Int.add_assoc] at S0)
        have S := Lib.hid S0
        clear PA S0
        go_wp2_with (at_builtin; refine wpList_append_own _ rfl _ _ 26 rfl (w.heap.size) 3 i0 (.int .i64 0) 1 8 Try.underlying26 hi0 hz0 hz1 hz2 rfl (by decide) _ _ _ rfl (hown.alloc _) ⟨wr.heap.size, 0, none⟩ 1 1 [.int .i64 ((cc + ys[j]) % 10)] rfl rfl (one_new _ _ _) (one_cell1 _ _) ?c3 ?c4 ?c5 ?_; (case c3 => (unfold maxLen; omega)); (case c4 => omega); (case c5 => (simp; omega)); intro v1 w1 hown1 hg1 _; have hb1 := below_grown (below_alloc hb _) hg1 (hown.alloc _) (by omega); rw [List.map_snoc] at hown1)
        go_roundw
        case rel => exact ⟨j + 1, _, _, by go_num, rfl, S.out, by rw [List.length_append, hlen]; rfl, by omega, by rw [List.length_append]; exact hown1, hb1⟩
        case measure => simp [intOf]; omega
      · obtain ⟨F1, F2⟩ := PA.fin (by omega) (by omega)
        have F := Lib.hid F2
        clear F2 PA
        have hl3 : (ds ++ [cc]).length ≤ 1000000 := by rw [List.length_append, hlen]; simp; omega
        have hl5 : ds.length ≤ 100000 := by omega
        have HL4 := Lib.hid (show (ds ++ [cc]).length = ds.length + 1 by simp)
        have HLEN := Lib.hid hlen
        clear hlen
        go_wp2_with (first
          | ((at_builtin; refine wpList_append_own _ rfl _ _ 26 rfl (w.heap.size) 3 i0 (.int .i64 0) 1 8 Try.underlying26 hi0 hz0 hz1 hz2 rfl (by decide) _ _ _ rfl (hown.alloc _) ⟨wr.heap.size, 0, none⟩ 1 1 [.int .i64 (cc)] rfl rfl (one_new _ _ _) (one_cell1 _ _) ?c3 ?c4 ?c5 ?_; (case c3 => (unfold maxLen; omega)); (case c4 => omega); (case c5 => (simp; omega)); intro v1 w1 hown1 hg1 _; have hb1 := below_grown (below_alloc hb _) hg1 (hown.alloc _) (by omega); rw [List.map_snoc] at hown1); obtain ⟨A1, k1, rfl, hk1, hD1, hA1⟩ := Dg.of_own hown1; have HD1 := Lib.hid (And.intro hD1 hA1); clear hD1 hA1 hown1)
          | (go_at_call 26; refine (wtrim_n _ _ _ (ds ++ [cc]) _ HL4.out hk1 hl3 HD1.out.1 F1).mono ?_; rintro e w2 ⟨rfl, rfl⟩))
        go_ret
        refine ⟨A1, k1, ret_slice (by rw [F.out]), ?_, ?_, (by repeat (first | with_reducible exact Below.refl _ _ | with_reducible refine Below.drew ?_ | with_reducible refine below_alloc ?_ _ | (with_reducible refine below_set ?_ ?_ _; rotate_left; (first | omega | (simp <;> omega))) | with_reducible refine below_drewN ?_ _ | with_reducible refine below_tr ?_ (by with_reducible assumption)))⟩
        · rw [← F.out]; exact Nat.le_trans (dg_len_of _ F1) hk1
        · rw [← F.out]; exact HD1.out.1.trim F1

set_option maxHeartbeats 2000000 in
theorem wminus_fresh (A B : Option Addr) (c1 c2 : Nat) (xs ys : List Int) (w : World) (ha : SlD w A c1 xs) (hb : SlD w B c2 ys) (hle : val ys ≤ val xs) (hll : ys.length ≤ xs.length) :
    Calls Try.prog 30 #[.slice A xs.length c1, .slice B ys.length c2] w (RetF (val xs - val ys).toNat w) := by
  obtain ⟨i0, hi0, hz0, hz1, hz2⟩ := info_parts info_int
  obtain ⟨ha1, ha2, ha3, ha4⟩ := ha
  obtain ⟨hb1', hb2, hb3, hb4⟩ := hb
  have HA := Lib.hid ha3
  have HB := Lib.hid hb3
  have DA := Lib.hid ha4
  have DB := Lib.hid hb4
  have HLE := Lib.hid hle
  clear ha3 hb3 ha4 hb4 hle
  go_enter Try.func30, Try.ntmps30
  go_wp2
  go_loopw [5, 6, 7, 8] (fun out cv iv _ wr => ∃ (j : Nat) (ds : List Int) (cc : Int), iv = .int .i64 (j) ∧ cv = .int .i64 (cc) ∧ MinusAt xs ys ds j cc ∧ ds.length = j ∧ j ≤ xs.length ∧ wr.ownsRow w.heap.size 3 1 out ds.length (ds.map (Value.int .i64)) ∧ Below w.heap.size w wr) (fun _ _ iv _ _ => xs.length - (intOf iv).toNat)
  case atStart => exact ⟨0, [], 0, rfl, rfl, MinusAt.zero _ _, rfl, Nat.zero_le _, World.ownsRow_nil _ _ _ _, (by repeat (first | with_reducible exact Below.refl _ _ | with_reducible refine Below.drew ?_ | with_reducible refine below_alloc ?_ _ | (with_reducible refine below_set ?_ ?_ _; rotate_left; (first | omega | (simp <;> omega))) | with_reducible refine below_drewN ?_ _ | with_reducible refine below_tr ?_ (by with_reducible assumption)))⟩
  case round =>
    obtain ⟨j, ds, cc, rfl, rfl, PA, hlen, hj, hown, hb⟩ := hrel
    have hB := hb.size
    have hjm : j ≤ 100000 := by omega
    have c0 := PA.2.2.1
    have cl := PA.2.2.2.1
    have hl5 : ds.length ≤ 100000 := by omega
    have HLEN := Lib.hid hlen
    clear hlen
    by_cases hx : j < xs.length
    · obtain ⟨b1, o1, rfl, k1⟩ := HA.out j hx
      have k1 := (hb.cell (World.block_lt_of_cell? w _ k1)).trans k1
      have d1 := DA.out.at j hx
      obtain ⟨d10, d11⟩ := d1
      by_cases hy : j < ys.length
      · obtain ⟨b2, o2, rfl, k2⟩ := HB.out j hy
        have k2 := (hb.cell (World.block_lt_of_cell? w _ k2)).trans k2
        have d2 := DB.out.at j hy
        obtain ⟨d20, d21⟩ := d2
        have hvy := vt_succ ys j hy
        by_cases hs : xs[j] - cc - ys[j] < 0
        · have S := Lib.hid (PA.step xs[j] (ys[j]) (xs[j] - cc - ys[j] + 10) 1 (by omega) (by omega) (by omega) (by omega) (by omega) (vt_succ _ _ hx) hvy)
          clear PA hvy
          go_wp2_with (at_builtin; refine wpList_append_own _ rfl _ _ 26 rfl (w.heap.size) 3 i0 (.int .i64 0) 1 8 Try.underlying26 hi0 hz0 hz1 hz2 rfl (by decide) _ _ _ rfl (hown.alloc _) ⟨wr.heap.size, 0, none⟩ 1 1 [.int .i64 (xs[j] - cc - ys[j] + 10)] rfl rfl (one_new _ _ _) (one_cell1 _ _) ?c3 ?c4 ?c5 ?_; (case c3 => (unfold maxLen; omega)); (case c4 => omega); (case c5 => (simp; omega)); intro v1 w1 hown1 hg1 _; have hb1 := below_grown (below_alloc hb _) hg1 (hown.alloc _) (by omega); rw [List.map_snoc] at hown1)
          go_roundw
          case rel => exact ⟨j + 1, _, _, by go_num, rfl, S.out, by rw [List.length_append, HLEN.out]; rfl, by omega, by rw [List.length_append]; exact hown1, hb1⟩
          case measure => simp [intOf]; omega
        · have S := Lib.hid (PA.step xs[j] (ys[j]) (xs[j] - cc - ys[j]) 0 (by omega) (by omega) (by omega) (by omega) (by omega) (vt_succ _ _ hx) hvy)
          clear PA hvy
          go_wp2_with (at_builtin; refine wpList_append_own _ rfl _ _ 26 rfl (w.heap.size) 3 i0 (.int .i64 0) 1 8 Try.underlying26 hi0 hz0 hz1 hz2 rfl (by decide) _ _ _ rfl (hown.alloc _) ⟨wr.heap.size, 0, none⟩ 1 1 [.int .i64 (xs[j] - cc - ys[j])] rfl rfl (one_new _ _ _) (one_cell1 _ _) ?c3 ?c4 ?c5 ?_; (case c3 => (unfold maxLen; omega)); (case c4 => omega); (case c5 => (simp; omega)); intro v1 w1 hown1 hg1 _; have hb1 := below_grown (below_alloc hb _) hg1 (hown.alloc _) (by omega); rw [List.map_snoc] at hown1)
          go_roundw
          case rel => exact ⟨j + 1, _, _, by go_num, rfl, S.out, by rw [List.length_append, HLEN.out]; rfl, by omega, by rw [List.length_append]; exact hown1, hb1⟩
          case measure => simp [intOf]; omega
      · have hvy : val (ys.take (j + 1)) = val (ys.take j) + 10 ^ j * 0 := by rw [vt_ge ys j (by omega), vt_ge ys (j + 1) (by omega), Int.mul_zero, Int.add_zero]
        by_cases hs : xs[j] - cc < 0
        · have S := Lib.hid (PA.step xs[j] (0) (xs[j] - cc + 10) 1 (by omega) (by omega) (by omega) (by omega) (by omega) (vt_succ _ _ hx) hvy)
          clear PA hvy
          go_wp2_with (at_builtin; refine wpList_append_own _ rfl _ _ 26 rfl (w.heap.size) 3 i0 (.int .i64 0) 1 8 Try.underlying26 hi0 hz0 hz1 hz2 rfl (by decide) _ _ _ rfl (hown.alloc _) ⟨wr.heap.size, 0, none⟩ 1 1 [.int .i64 (xs[j] - cc + 10)] rfl rfl (one_new _ _ _) (one_cell1 _ _) ?c3 ?c4 ?c5 ?_; (case c3 => (unfold maxLen; omega)); (case c4 => omega); (case c5 => (simp; omega)); intro v1 w1 hown1 hg1 _; have hb1 := below_grown (below_alloc hb _) hg1 (hown.alloc _) (by omega); rw [List.map_snoc] at hown1)
          go_roundw
          case rel => exact ⟨j + 1, _, _, by go_num, rfl, S.out, by rw [List.length_append, HLEN.out]; rfl, by omega, by rw [List.length_append]; exact hown1, hb1⟩
          case measure => simp [intOf]; omega
        · have S := Lib.hid (PA.step xs[j] (0) (xs[j] - cc) 0 (by omega) (by omega) (by omega) (by omega) (by omega) (vt_succ _ _ hx) hvy)
          clear PA hvy
          go_wp2_with (at_builtin; refine wpList_append_own _ rfl _ _ 26 rfl (w.heap.size) 3 i0 (.int .i64 0) 1 8 Try.underlying26 hi0 hz0 hz1 hz2 rfl (by decide) _ _ _ rfl (hown.alloc _) ⟨wr.heap.size, 0, none⟩ 1 1 [.int .i64 (xs[j] - cc)] rfl rfl (one_new _ _ _) (one_cell1 _ _) ?c3 ?c4 ?c5 ?_; (case c3 => (unfold maxLen; omega)); (case c4 => omega); (case c5 => (simp; omega)); intro v1 w1 hown1 hg1 _; have hb1 := below_grown (below_alloc hb _) hg1 (hown.alloc _) (by omega); rw [List.map_snoc] at hown1)
          go_roundw
          case rel => exact ⟨j + 1, _, _, by go_num, rfl, S.out, by rw [List.length_append, HLEN.out]; rfl, by omega, by rw [List.length_append]; exact hown1, hb1⟩
          case measure => simp [intOf]; omega
    · have F := Lib.hid (PA.fin (by omega) (by omega) HLE.out)
      have F1 := PA.2.1
      clear PA
      obtain ⟨A1, k1, rfl, hk1, hD1, hA1⟩ := Dg.of_own hown
      have HD1 := Lib.hid (And.intro hD1 hA1)
      clear hD1 hA1 hown
      go_wp2_with (go_at_call 26; refine (wtrim_n _ _ _ ds _ rfl hk1 (by omega) HD1.out.1 F1).mono ?_; rintro e w2 ⟨rfl, rfl⟩)
      go_ret
      refine ⟨A1, k1, ret_slice (by rw [F.out]), ?_, ?_, (by repeat (first | with_reducible exact Below.refl _ _ | with_reducible refine Below.drew ?_ | with_reducible refine below_alloc ?_ _ | (with_reducible refine below_set ?_ ?_ _; rotate_left; (first | omega | (simp <;> omega))) | with_reducible refine below_drewN ?_ _ | with_reducible refine below_tr ?_ (by with_reducible assumption))), fun b o e => (HD1.out.2 b o e).1⟩
      · rw [← F.out]; exact Nat.le_trans (dg_len_of _ F1) hk1
      · rw [← F.out]; exact HD1.out.1.trim F1

theorem wminus_any (A B : Option Addr) (c1 c2 : Nat) (xs ys : List Int) (w : World) (ha : SlD w A c1 xs) (hb : SlD w B c2 ys) (hle : val ys ≤ val xs) (hll : ys.length ≤ xs.length) :
    Calls Try.prog 30 #[.slice A xs.length c1, .slice B ys.length c2] w (RetD (val xs - val ys).toNat w) := by
  refine (wminus_fresh A B c1 c2 xs ys w ha hb hle hll).mono ?_
  rintro e w' ⟨A1, k1, h1, h2, h3, h4, _⟩
  exact ⟨A1, k1, h1, h2, h3, h4⟩

end Go.Proofs.Ythopiolbnhjgnaa
