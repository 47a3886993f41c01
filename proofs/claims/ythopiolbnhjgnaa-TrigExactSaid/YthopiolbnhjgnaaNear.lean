/- The reference's test of nearness, walked. -/
import Derived.Test.YthopiolbnhjgnaaExact
set_option linter.unusedSimpArgs false
set_option linter.unusedVariables false
set_option maxRecDepth 20000
namespace Go.Proofs.Ythopiolbnhjgnaa
open Go.RowKit



theorem less_no (x y : Int) (s s2 : Bool) (A B : Option Addr) (n m c d : Nat) (w : World) (h : ¬ x.natAbs < y.natAbs) (hx : IsN w x s A n c) (hy : IsN w y s2 B m d) :
    Calls Try.prog 17 #[.slice A n c, .slice B m d] w fun e w' => e = .returned (.bool false) ∧ Below w.heap.size w w' := by
  refine (lessI x y s s2 A B n m c d w hx hy).mono ?_
  rintro e w' ⟨rfl, hb⟩
  exact ⟨by rw [decide_eq_false h], hb⟩
theorem two30 (w : World) : Calls Try.prog 13 #[.int .i64 (30)] w (RetI (2 ^ 30) w) := twoI 30 w (by decide)
set_option maxHeartbeats 8000000 in
theorem near_yes (n z : Int) (s : Bool) (A : Option Addr) (m c : Nat) (w : World) (hn : I64 n) (hz : IsN w z s A m c) (hm : dl z ≤ 1000) (h : ¬ (tenP * 4).natAbs < (n * tenP - z * 2 ^ 30).natAbs) :
    Calls Try.prog 6 #[.int .i64 (n), .agg #[.bool s, .slice A m c], .int .i64 (4)] w fun e w' => e = .returned (.bool true) ∧ Below w.heap.size w w' := by
  have LN : dl n ≤ 20 := by unfold I64 at hn; exact dl_lt n 20 (by omega)
  have HN := Lib.hid hn
  have LT := dl_tenP
  have L30 := dl_pow2 30
  have L1 := dl_mul n tenP
  have L2 := dl_mul z (2 ^ 30)
  have L3 := dl_sub (n * tenP) (z * 2 ^ 30) 2000 (by omega) (by omega)
  have L4 : dl 4 ≤ 20 := dl_lt 4 20 (by decide)
  have L5 := dl_mul tenP 4
  have lm := Nat.le_of_eq hz.2.1
  have HH := Lib.hid h
  clear hn h
  go_enter Try.func6, Try.ntmps6
  go_upto_region 1 with fail
  go_cut [7] (fun p wx => ∃ g s A n1 c, p = .pointer (some ⟨g, 0, none⟩) ∧ Blk wx g #[.bool s, .slice A n1 c] ∧ IsN wx (n * tenP - z * 2 ^ 30) s A n1 c ∧ Below w.heap.size w wx)
  case first =>
    have KB := Blk.new w #[.bool s, .slice A m c] 28
    have HZ := IsN.alloc hz (.cells #[.bool s, .slice A m c] 28)
    go_wp2_with fail
    have tokA := True.intro
    go_region_held3 (fun w' => w'.cell? ⟨w.heap.size, 0, none⟩ = some (.bool s) ∧ w'.cell? ⟨w.heap.size, 1, none⟩ = some (.slice A m c)) (first | (go_keep; done) | (exact ⟨(Blk.cell (cs := #[.bool s, .slice A m c]) (by repeat (first | with_reducible assumption | (with_reducible refine Blk.newAt _ _ _ _ ?_; (first | rfl | (simp; done))) | with_reducible refine Blk.drew ?_ | with_reducible refine Blk.alloc ?_ _ | with_reducible refine Blk.drewN ?_ _ | with_reducible apply Blk.put2 | (with_reducible refine Blk.far ?_ ?_ _; rotate_left; (first | omega | (simp <;> omega))) | with_reducible refine Blk.below ?_ (by with_reducible assumption))) 0).trans rfl, (Blk.cell (cs := #[.bool s, .slice A m c]) (by repeat (first | with_reducible assumption | (with_reducible refine Blk.newAt _ _ _ _ ?_; (first | rfl | (simp; done))) | with_reducible refine Blk.drew ?_ | with_reducible refine Blk.alloc ?_ _ | with_reducible refine Blk.drewN ?_ _ | with_reducible apply Blk.put2 | (with_reducible refine Blk.far ?_ ?_ _; rotate_left; (first | omega | (simp <;> omega))) | with_reducible refine Blk.below ?_ (by with_reducible assumption))) 1).trans rfl⟩)) (first
      | (go_at_call 12; refine (ofI n _ HN.out).mono ?_; rintro e w2 ⟨s2, A2, n2, c2, rfl, H2, hb2⟩; have z2 := hb2.size; (try simp at z2); have ln2 := Nat.le_of_eq H2.2.1; (first | (have K9 := Blk.below K9 hb2) | (have K9 := Blk.below (Blk.drew K9) hb2) | (have K9 := Blk.below (Blk.new _ #[.bool false, .slice none 0 0] _) hb2) | (have K9 := Blk.below (Blk.drew (Blk.new _ #[.bool false, .slice none 0 0] _)) hb2) | skip); (try simp only [World.size_alloc] at K9))
      | (go_at_call 14; refine (tenI _).mono ?_; rintro e w3 ⟨s3, A3, n3, c3, rfl, H3, hb3⟩; have z3 := hb3.size; (try simp at z3); have ln3 := Nat.le_of_eq H3.2.1; (first | (have K9 := Blk.below K9 hb3) | (have K9 := Blk.below (Blk.drew K9) hb3) | (have K9 := Blk.below (Blk.new _ #[.bool false, .slice none 0 0] _) hb3) | (have K9 := Blk.below (Blk.drew (Blk.new _ #[.bool false, .slice none 0 0] _)) hb3) | skip); (try simp only [World.size_alloc] at K9))
      | (go_at_call 11; have _ := tokA; refine (mulI n tenP _ _ _ _ _ _ _ _ _ (by repeat (first | with_reducible assumption | with_reducible exact IsN.nil _ | with_reducible refine IsN.drew ?_ | with_reducible refine IsN.alloc ?_ _ | with_reducible refine IsN.drewN ?_ _ | with_reducible refine IsN.below ?_ (by with_reducible assumption))) (by repeat (first | with_reducible assumption | with_reducible exact IsN.nil _ | with_reducible refine IsN.drew ?_ | with_reducible refine IsN.alloc ?_ _ | with_reducible refine IsN.drewN ?_ _ | with_reducible refine IsN.below ?_ (by with_reducible assumption))) (by omega) (by omega)).mono ?_; rintro e w4 ⟨s4, A4, n4, c4, rfl, H4, hb4⟩; have z4 := hb4.size; (try simp at z4); have ln4 := Nat.le_of_eq H4.2.1; (first | (have K9 := Blk.below K9 hb4) | (have K9 := Blk.below (Blk.drew K9) hb4) | (have K9 := Blk.below (Blk.new _ #[.bool false, .slice none 0 0] _) hb4) | (have K9 := Blk.below (Blk.drew (Blk.new _ #[.bool false, .slice none 0 0] _)) hb4) | skip); (try simp only [World.size_alloc] at K9); clear tokA)
      | (go_at_call 13; refine (two30 _).mono ?_; rintro e w5 ⟨s5, A5, n5, c5, rfl, H5, hb5⟩; have z5 := hb5.size; (try simp at z5); have ln5 := Nat.le_of_eq H5.2.1; (first | (have K9 := Blk.below K9 hb5) | (have K9 := Blk.below (Blk.drew K9) hb5) | (have K9 := Blk.below (Blk.new _ #[.bool false, .slice none 0 0] _) hb5) | (have K9 := Blk.below (Blk.drew (Blk.new _ #[.bool false, .slice none 0 0] _)) hb5) | skip); (try simp only [World.size_alloc] at K9))
      | (go_at_call 11; refine (mulI z (2 ^ 30) _ _ _ _ _ _ _ _ _ (by repeat (first | with_reducible assumption | with_reducible exact IsN.nil _ | with_reducible refine IsN.drew ?_ | with_reducible refine IsN.alloc ?_ _ | with_reducible refine IsN.drewN ?_ _ | with_reducible refine IsN.below ?_ (by with_reducible assumption))) (by repeat (first | with_reducible assumption | with_reducible exact IsN.nil _ | with_reducible refine IsN.drew ?_ | with_reducible refine IsN.alloc ?_ _ | with_reducible refine IsN.drewN ?_ _ | with_reducible refine IsN.below ?_ (by with_reducible assumption))) (by omega) (by omega)).mono ?_; rintro e w6 ⟨s6, A6, n6, c6, rfl, H6, hb6⟩; have z6 := hb6.size; (try simp at z6); have ln6 := Nat.le_of_eq H6.2.1; (first | (have K9 := Blk.below K9 hb6) | (have K9 := Blk.below (Blk.drew K9) hb6) | (have K9 := Blk.below (Blk.new _ #[.bool false, .slice none 0 0] _) hb6) | (have K9 := Blk.below (Blk.drew (Blk.new _ #[.bool false, .slice none 0 0] _)) hb6) | skip); (try simp only [World.size_alloc] at K9))
      | (go_at_call 16; refine (subI (n * tenP) (z * 2 ^ 30) _ _ _ _ _ _ _ _ _ (by repeat (first | with_reducible assumption | with_reducible exact IsN.nil _ | with_reducible refine IsN.drew ?_ | with_reducible refine IsN.alloc ?_ _ | with_reducible refine IsN.drewN ?_ _ | with_reducible refine IsN.below ?_ (by with_reducible assumption))) (by repeat (first | with_reducible assumption | with_reducible exact IsN.nil _ | with_reducible refine IsN.drew ?_ | with_reducible refine IsN.alloc ?_ _ | with_reducible refine IsN.drewN ?_ _ | with_reducible refine IsN.below ?_ (by with_reducible assumption))) (by omega) (by omega)).mono ?_; rintro e w7 ⟨s7, A7, n7, c7, rfl, H7, hb7⟩; have z7 := hb7.size; (try simp at z7); have ln7 := Nat.le_of_eq H7.2.1; (first | (have K9 := Blk.below K9 hb7) | (have K9 := Blk.below (Blk.drew K9) hb7) | (have K9 := Blk.below (Blk.new _ #[.bool false, .slice none 0 0] _) hb7) | (have K9 := Blk.below (Blk.drew (Blk.new _ #[.bool false, .slice none 0 0] _)) hb7) | skip); (try simp only [World.size_alloc] at K9); (try have c9 := Blk.cell K9; have f9 := Blk.frozen K9; have lc9 := Blk.lt K9)))
    all_goals go_wp2_with fail
    all_goals go_meet
    all_goals (first | exact ⟨_, s7, A7, n7, c7, rfl, Blk.put2 K9 _ _, IsN.put H7 K9 _ _, (by repeat (first | with_reducible exact Below.refl _ _ | with_reducible refine Below.drew ?_ | with_reducible refine below_alloc ?_ _ | (with_reducible refine below_set ?_ ?_ _; rotate_left; (first | omega | (simp <;> omega))) | with_reducible refine below_drewN ?_ _ | with_reducible refine below_tr ?_ (by with_reducible assumption)))⟩ | exact ⟨_, s7, A7, n7, c7, rfl, (by repeat (first | with_reducible assumption | (with_reducible refine Blk.newAt _ _ _ _ ?_; (first | rfl | (simp; done))) | with_reducible refine Blk.drew ?_ | with_reducible refine Blk.alloc ?_ _ | with_reducible refine Blk.drewN ?_ _ | with_reducible apply Blk.put2 | (with_reducible refine Blk.far ?_ ?_ _; rotate_left; (first | omega | (simp <;> omega))) | with_reducible refine Blk.below ?_ (by with_reducible assumption))), (by repeat (first | with_reducible assumption | with_reducible exact IsN.nil _ | with_reducible refine IsN.drew ?_ | with_reducible refine IsN.alloc ?_ _ | with_reducible refine IsN.drewN ?_ _ | with_reducible refine IsN.below ?_ (by with_reducible assumption))), (by repeat (first | with_reducible exact Below.refl _ _ | with_reducible refine Below.drew ?_ | with_reducible refine below_alloc ?_ _ | (with_reducible refine below_set ?_ ?_ _; rotate_left; (first | omega | (simp <;> omega))) | with_reducible refine below_drewN ?_ _ | with_reducible refine below_tr ?_ (by with_reducible assumption)))⟩)
  case rest =>
    obtain ⟨g, s7, A7, n7, c7, rfl, K7, H7, hbw⟩ := hcut
    have l7 := Nat.le_of_eq H7.2.1
    have fd := fieldD
    go_wp2_with fail
    go_region_held3 (fun w' => w'.cell? ⟨g, 1, none⟩ = some (.slice A7 n7 c7)) (first | (go_keep; done) | (exact (Blk.cell (cs := #[.bool s7, .slice A7 n7 c7]) (by repeat (first | with_reducible assumption | (with_reducible refine Blk.newAt _ _ _ _ ?_; (first | rfl | (simp; done))) | with_reducible refine Blk.drew ?_ | with_reducible refine Blk.alloc ?_ _ | with_reducible refine Blk.drewN ?_ _ | with_reducible apply Blk.put2 | (with_reducible refine Blk.far ?_ ?_ _; rotate_left; (first | omega | (simp <;> omega))) | with_reducible refine Blk.below ?_ (by with_reducible assumption))) 1).trans rfl)) (first
      | (go_at_call 14; refine (tenI _).mono ?_; rintro e w3 ⟨s3, A3, n3, c3, rfl, H3, hb3⟩; have z3 := hb3.size; (try simp at z3); have ln3 := Nat.le_of_eq H3.2.1)
      | (go_at_call 12; refine (ofI 4 _ (by unfold I64; omega)).mono ?_; rintro e w2 ⟨s2, A2, n2, c2, rfl, H2, hb2⟩; have z2 := hb2.size; (try simp at z2); have ln2 := Nat.le_of_eq H2.2.1)
      | (go_at_call 11; refine (mulI tenP 4 _ _ _ _ _ _ _ _ _ (by repeat (first | with_reducible assumption | with_reducible exact IsN.nil _ | with_reducible refine IsN.drew ?_ | with_reducible refine IsN.alloc ?_ _ | with_reducible refine IsN.drewN ?_ _ | with_reducible refine IsN.below ?_ (by with_reducible assumption))) (by repeat (first | with_reducible assumption | with_reducible exact IsN.nil _ | with_reducible refine IsN.drew ?_ | with_reducible refine IsN.alloc ?_ _ | with_reducible refine IsN.drewN ?_ _ | with_reducible refine IsN.below ?_ (by with_reducible assumption))) (by omega) (by omega)).mono ?_; rintro e w4 ⟨s4, A4, n4, c4, rfl, H4, hb4⟩; have z4 := hb4.size; (try simp at z4); have ln4 := Nat.le_of_eq H4.2.1)
      | (go_at_call 17; refine (less_no (tenP * 4) (n * tenP - z * 2 ^ 30) s4 s7 _ _ _ _ _ _ _ HH.out (by repeat (first | with_reducible assumption | with_reducible exact IsN.nil _ | with_reducible refine IsN.drew ?_ | with_reducible refine IsN.alloc ?_ _ | with_reducible refine IsN.drewN ?_ _ | with_reducible refine IsN.below ?_ (by with_reducible assumption))) (by repeat (first | with_reducible assumption | with_reducible exact IsN.nil _ | with_reducible refine IsN.drew ?_ | with_reducible refine IsN.alloc ?_ _ | with_reducible refine IsN.drewN ?_ _ | with_reducible refine IsN.below ?_ (by with_reducible assumption)))).mono ?_; rintro e w5 ⟨rfl, hb5⟩; have z5 := hb5.size; (try simp at z5)))
    all_goals go_wp2
    all_goals go_ret
    all_goals exact ⟨rfl, (by repeat (first | with_reducible exact Below.refl _ _ | with_reducible refine Below.drew ?_ | with_reducible refine below_alloc ?_ _ | (with_reducible refine below_set ?_ ?_ _; rotate_left; (first | omega | (simp <;> omega))) | with_reducible refine below_drewN ?_ _ | with_reducible refine below_tr ?_ (by with_reducible assumption)))⟩
end Go.Proofs.Ythopiolbnhjgnaa
