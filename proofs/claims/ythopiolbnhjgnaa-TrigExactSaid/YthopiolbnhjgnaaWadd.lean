/- Wide numbers of the reference: comparing, adding, taking off, walked. -/
import Derived.Test.YthopiolbnhjgnaaWplus
set_option linter.unusedSimpArgs false
set_option linter.unusedVariables false
set_option maxRecDepth 20000
namespace Go.Proofs.Ythopiolbnhjgnaa
open Go.RowKit



set_option maxHeartbeats 1000000 in
theorem wLess_same (A B : Option Addr) (c1 c2 : Nat) (xs ys : List Int) (w : World) (ha : SlD w A c1 xs) (hb : SlD w B c2 ys) (hll : ys.length = xs.length) :
    Calls Try.prog 17 #[.slice A xs.length c1, .slice B ys.length c2] w fun e w' => e = .returned (.bool (decide (val xs < val ys))) ∧ Below w.heap.size w w' := by
  obtain ⟨ha1, ha2, ha3, ha4⟩ := ha
  obtain ⟨hb1', hb2, hb3, hb4⟩ := hb
  have HA := Lib.hid ha3
  have HB := Lib.hid hb3
  have DA := Lib.hid ha4
  have DB := Lib.hid hb4
  clear ha3 hb3 ha4 hb4
  go_enter Try.func17, Try.ntmps17
  go_wp2
  go_loopw [5] (fun iv wr => ∃ k : Nat, iv = .int .i64 ((k : Int) - 1) ∧ k ≤ xs.length ∧ xs.drop k = ys.drop k ∧ Below w.heap.size w wr) (fun iv _ => (intOf iv + 1).toNat)
  case atStart => exact ⟨xs.length, rfl, Nat.le_refl _, by rw [List.drop_eq_nil_of_le (Nat.le_refl _), List.drop_eq_nil_of_le (by omega)], (by repeat (first | with_reducible exact Below.refl _ _ | with_reducible refine Below.drew ?_ | with_reducible refine below_alloc ?_ _ | (with_reducible refine below_set ?_ ?_ _; rotate_left; (first | omega | (simp <;> omega))) | with_reducible refine below_drewN ?_ _ | with_reducible refine below_tr ?_ (by with_reducible assumption)))⟩
  case round =>
    obtain ⟨k, rfl, hk, hd, hb⟩ := hrel
    have HD := Lib.hid hd
    clear hd
    by_cases h0 : k = 0
    · subst h0
      have E := Lib.hid (show xs = ys from HD.out)
      go_wp2
      go_ret
      exact ⟨ret_bool (by rw [E.out]; simp), (by repeat (first | with_reducible exact Below.refl _ _ | with_reducible refine Below.drew ?_ | with_reducible refine below_alloc ?_ _ | (with_reducible refine below_set ?_ ?_ _; rotate_left; (first | omega | (simp <;> omega))) | with_reducible refine below_drewN ?_ _ | with_reducible refine below_tr ?_ (by with_reducible assumption)))⟩
    · have hlt : k - 1 < xs.length := by omega
      have hlt2 : k - 1 < ys.length := by omega
      obtain ⟨b1, o1, rfl, k1⟩ := HA.out (k - 1) hlt
      have k1 := (hb.cell (World.block_lt_of_cell? w _ k1)).trans k1
      obtain ⟨b2, o2, rfl, k2⟩ := HB.out (k - 1) hlt2
      have k2 := (hb.cell (World.block_lt_of_cell? w _ k2)).trans k2
      have e1 : ((k : Int) - 1).toNat = k - 1 := by omega
      have HD2 := Lib.hid (show xs.drop (k - 1 + 1) = ys.drop (k - 1 + 1) by rw [show k - 1 + 1 = k by omega]; exact HD.out)
      by_cases hx : xs[k - 1] = ys[k - 1]
      · have S := Lib.hid (drop_step (k - 1) hlt hlt2 HD2.out hx)
        have d1 : (xs[k - 1] == ys[k - 1]) = true := by simp [hx]
        have d2 : (xs[k - 1] != ys[k - 1]) = false := by simp [hx]
        clear hx
        go_wp2
        go_quiet (fail)
        go_wp2
        go_roundw
        case rel => exact ⟨k - 1, by rw [show ((k - 1 : Nat) : Int) = (k : Int) - 1 by omega], by omega, S.out, (by repeat (first | with_reducible exact Below.refl _ _ | with_reducible refine Below.drew ?_ | with_reducible refine below_alloc ?_ _ | (with_reducible refine below_set ?_ ?_ _; rotate_left; (first | omega | (simp <;> omega))) | with_reducible refine below_drewN ?_ _ | with_reducible refine below_tr ?_ (by with_reducible assumption)))⟩
        case measure => simp [intOf]; omega
      · have R := Lib.hid (show decide (xs[k - 1] < ys[k - 1]) = decide (val xs < val ys) by
          by_cases hl : xs[k - 1] < ys[k - 1]
          · have := digit_less DA.out DB.out (k - 1) hlt hlt2 HD2.out hl
            simp [hl, this]
          · have := digit_less DB.out DA.out (k - 1) hlt2 hlt HD2.out.symm (by omega)
            simp [hl]; omega)
        have d1 : (xs[k - 1] == ys[k - 1]) = false := by simp [hx]
        have d2 : (xs[k - 1] != ys[k - 1]) = true := by simp [hx]
        clear hx
        go_wp2
        go_quiet (fail)
        go_wp2
        go_quiet (fail)
        go_wp2
        go_ret
        exact ⟨ret_bool R.out, (by repeat (first | with_reducible exact Below.refl _ _ | with_reducible refine Below.drew ?_ | with_reducible refine below_alloc ?_ _ | (with_reducible refine below_set ?_ ?_ _; rotate_left; (first | omega | (simp <;> omega))) | with_reducible refine below_drewN ?_ _ | with_reducible refine below_tr ?_ (by with_reducible assumption)))⟩

theorem wLess_len (A B : Option Addr) (c1 c2 m n : Nat) (w : World) (hll : n ≠ m) (h1 : n ≤ 1000000) (h2 : m ≤ 1000000) :
    Calls Try.prog 17 #[.slice A m c1, .slice B n c2] w fun e w' => e = .returned (.bool (decide (m < n))) ∧ Below w.heap.size w w' := by
  have d1 : ((m : Int) == (n : Int)) = false := by simp; omega
  have d2 : (m == n) = false := by simp; omega
  go_enter Try.func17, Try.ntmps17
  go_wp2
  go_ret
  exact ⟨ret_bool (by simp), (by repeat (first | with_reducible exact Below.refl _ _ | with_reducible refine Below.drew ?_ | with_reducible refine below_alloc ?_ _ | (with_reducible refine below_set ?_ ?_ _; rotate_left; (first | omega | (simp <;> omega))) | with_reducible refine below_drewN ?_ _ | with_reducible refine below_tr ?_ (by with_reducible assumption)))⟩

/-- Comparing sizes. -/
theorem wLess_any (A B : Option Addr) (c1 c2 m n : Nat) (w : World) (ha : SlD w A c1 (dg m)) (hb : SlD w B c2 (dg n)) :
    Calls Try.prog 17 #[.slice A (dg m).length c1, .slice B (dg n).length c2] w fun e w' => e = .returned (.bool (decide (m < n))) ∧ Below w.heap.size w w' := by
  by_cases h : (dg n).length = (dg m).length
  · refine (wLess_same A B c1 c2 (dg m) (dg n) w ha hb h).mono ?_
    rintro e w' ⟨rfl, hb⟩
    exact ⟨ret_bool (by rw [val_dg, val_dg]; simp), hb⟩
  · have h1 := ha.2.1
    have h2 := hb.2.1
    refine (wLess_len A B c1 c2 _ _ w h (by omega) (by omega)).mono ?_
    rintro e w' ⟨rfl, hb⟩
    exact ⟨ret_bool (by rw [decide_eq_decide]; exact dg_less_len m n (fun e => h e.symm)), hb⟩


theorem plus_dg (A B : Option Addr) (c1 c2 m n : Nat) (w : World) (ha : SlD w A c1 (dg m)) (hb : SlD w B c2 (dg n)) :
    Calls Try.prog 29 #[.slice A (dg m).length c1, .slice B (dg n).length c2] w (RetD (m + n) w) := by
  have h := wplus_any A B c1 c2 (dg m) (dg n) w ha hb
  rw [val_dg, val_dg] at h
  exact h
theorem minus_dg (A B : Option Addr) (c1 c2 m n : Nat) (w : World) (ha : SlD w A c1 (dg m)) (hb : SlD w B c2 (dg n)) (hle : n ≤ m) :
    Calls Try.prog 30 #[.slice A (dg m).length c1, .slice B (dg n).length c2] w (RetD (m - n) w) := by
  have h := wminus_any A B c1 c2 (dg m) (dg n) w ha hb (by rw [val_dg, val_dg]; omega) (dg_mono _ _ hle)
  rw [val_dg, val_dg, show ((m : Int) - (n : Int)).toNat = m - n by omega] at h
  exact h
theorem minus_dgf (A B : Option Addr) (c1 c2 m n : Nat) (w : World) (ha : SlD w A c1 (dg m)) (hb : SlD w B c2 (dg n)) (hle : n ≤ m) :
    Calls Try.prog 30 #[.slice A (dg m).length c1, .slice B (dg n).length c2] w (RetF (m - n) w) := by
  have h := wminus_fresh A B c1 c2 (dg m) (dg n) w ha hb (by rw [val_dg, val_dg]; omega) (dg_mono _ _ hle)
  rw [val_dg, val_dg, show ((m : Int) - (n : Int)).toNat = m - n by omega] at h
  exact h
/-- A number in memory. -/
def SlN (w : World) (A : Option Addr) (c : Nat) (z : Int) : Prop := SlD w A c (dg z.natAbs)
theorem SlD.below {w w1 : World} {A : Option Addr} {c : Nat} {xs : List Int} (h : SlD w A c xs) (hb : Below w.heap.size w w1) : SlD w1 A c xs := ⟨h.1, h.2.1, h.2.2.1.below hb, h.2.2.2⟩
theorem SlD.of {w : World} {A : Option Addr} {c n : Nat} (h : Dg w A (dg n)) (hc : (dg n).length ≤ c) (hl : (dg n).length ≤ 100000) : SlD w A c (dg n) := ⟨hc, hl, h, digs_dg n⟩

/-- num, of a size's digits and a sign that fits. -/
theorem num_dg (b : Bool) (A : Option Addr) (c n : Nat) (z : Int) (w : World) (hz : z.natAbs = n) (hb : (b && decide (n ≠ 0)) = decide (z < 0)) (hl : (dg n).length ≤ 1000000) :
    Calls Try.prog 25 #[.bool b, .slice A (dg n).length c] w fun e w' => e = .returned (.agg #[.bool (decide (z < 0)), .slice (A) (dg (z).natAbs).length (c)]) ∧ Below w.heap.size w w' := by
  refine (wnum_any b A _ c w hl).mono ?_
  rintro e w' ⟨rfl, h⟩
  refine ⟨?_, h⟩
  rw [dg_len0, hb, hz]

set_option maxHeartbeats 1000000 in
theorem wNeg_any (x : Int) (A : Option Addr) (c : Nat) (w : World) (hl : (dg x.natAbs).length ≤ 1000000) :
    Calls Try.prog 31 #[.agg #[.bool (decide (x < 0)), .slice (A) (dg (x).natAbs).length (c)]] w fun e w' => e = .returned (.agg #[.bool (decide (-x < 0)), .slice A (dg x.natAbs).length c]) ∧ Below w.heap.size w w' := by
  have N := Lib.hid (fun w => num_dg (!decide (x < 0)) A c x.natAbs (-x) w (by omega) (by by_cases h : x < 0 <;> by_cases h2 : x = 0 <;> simp [h, h2] <;> omega) hl)
  have E := Lib.hid (show (-x).natAbs = x.natAbs by omega)
  go_enter Try.func31, Try.ntmps31
  go_wp2_with (go_at_call 25; refine (N.out _).mono ?_; rw [E.out]; rintro e w1 ⟨rfl, hb1⟩; have z1 := hb1.size; (try simp at z1); have K1 := (Blk.new1 w _ _ _).below hb1; have c1 := Blk.cell K1; have f1 := Blk.frozen K1; have lc1 := Blk.lt K1)
  exact bodyPost_ret (v := .agg #[.bool (decide (-x < 0)), .slice A (dg x.natAbs).length c]) (by simp [results, Try.results31, go_sem, c1]) rfl ⟨rfl, (by repeat (first | with_reducible exact Below.refl _ _ | with_reducible refine Below.drew ?_ | with_reducible refine below_alloc ?_ _ | (with_reducible refine below_set ?_ ?_ _; rotate_left; (first | omega | (simp <;> omega))) | with_reducible refine below_drewN ?_ _ | with_reducible refine below_tr ?_ (by with_reducible assumption)))⟩

end Go.Proofs.Ythopiolbnhjgnaa
