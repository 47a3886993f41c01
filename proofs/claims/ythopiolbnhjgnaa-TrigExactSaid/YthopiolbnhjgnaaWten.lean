/- Wide numbers of the reference: ten to the power of thirty; whether a number fits; walked. -/
import Derived.Test.YthopiolbnhjgnaaWtwo
set_option linter.unusedSimpArgs false
set_option linter.unusedVariables false
set_option maxRecDepth 20000
namespace Go.Proofs.Ythopiolbnhjgnaa
open Go.RowKit



set_option maxHeartbeats 4000000 in
theorem tenN (m : Nat) (m0 : 30 ≤ m) (m1 : m ≤ 30) (w : World) : Calls Try.prog 14 #[] w (RetI (10 ^ m) w) := by
  go_enter Try.func14, Try.ntmps14
  go_wp2_with (go_at_call 12; refine (ofI 1 _ (by unfold I64; omega)).mono ?_; rintro e w1 ⟨s1, A1, n1, c1, rfl, h1, hb1⟩; have z1 := hb1.size; (try simp at z1); have KR1 := Blk.below (Blk.new w #[.bool false, .slice none 0 0] _) hb1; have H1 := Lib.hid h1; clear h1; have KX1 := Blk.new w1 #[.bool s1, .slice A1 n1 c1] 28; have HX1 := Lib.hid (IsN.alloc H1.out (.cells #[.bool s1, .slice A1 n1 c1] 28)))
  go_loopw [2] (fun iv wr => ∃ (i : Nat) (s : Bool) (A : Option Addr) (n c : Nat), iv = .int .i64 ((i : Int)) ∧ i ≤ m ∧ Blk wr w1.heap.size #[.bool s, .slice A n c] ∧ IsN wr (10 ^ i) s A n c ∧ Blk wr w.heap.size #[.bool false, .slice none 0 0] ∧ Below w.heap.size w wr) (fun iv _ => m - (intOf iv).toNat)
  case atStart => exact ⟨0, s1, A1, n1, c1, rfl, Nat.zero_le _, KX1, HX1.out, (by repeat (first | with_reducible assumption | (with_reducible refine Blk.newAt _ _ _ _ ?_; (first | rfl | (simp; done))) | with_reducible refine Blk.drew ?_ | with_reducible refine Blk.alloc ?_ _ | with_reducible refine Blk.drewN ?_ _ | with_reducible apply Blk.put2 | (with_reducible refine Blk.far ?_ ?_ _; rotate_left; (first | omega | (simp <;> omega))) | with_reducible refine Blk.below ?_ (by with_reducible assumption))), (by repeat (first | with_reducible exact Below.refl _ _ | with_reducible refine Below.drew ?_ | with_reducible refine below_alloc ?_ _ | (with_reducible refine below_set ?_ ?_ _; rotate_left; (first | omega | (simp <;> omega))) | with_reducible refine below_drewN ?_ _ | with_reducible refine below_tr ?_ (by with_reducible assumption)))⟩
  case round =>
    clear KX1 HX1 H1 hb1 KR1
    obtain ⟨i, s, A, n, c, rfl, hi, KX, hX, KR, hb⟩ := hrel
    have ln := dl_pow10 i
    rw [← hX.2.1] at ln
    have HX := Lib.hid hX
    clear hX
    have l1 := KX.lt
    have l2 := KR.lt
    have cx := Blk.cell KX; have fx := Blk.frozen KX; have lcx := Blk.lt KX
    by_cases hlt : i < m
    · have E := Lib.hid (show (10 : Int) ^ i * 10 = 10 ^ (i + 1) by rw [Int.pow_succ])
      have hlt30 : (i : Int) < 30 := by omega
      go_wp2
      go_region_with (first
        | (go_at_call 12; refine (ofI 10 _ (by unfold I64; omega)).mono ?_; rintro e w2 ⟨s2, A2, n2, c2, rfl, h2, hb2⟩; have z2 := hb2.size; (try simp at z2); have ln2 := dl_lt 10 20 (by omega); rw [← h2.2.1] at ln2; have H2 := Lib.hid h2; clear h2; have KX2 := Blk.below (Blk.drew KX) hb2; have KR2 := Blk.below (Blk.drew KR) hb2; have HX2 := Lib.hid (IsN.below (IsN.drew HX.out) hb2); have cx2 := Blk.cell KX2; have fx2 := Blk.frozen KX2; have lcx2 := Blk.lt KX2)
        | (go_at_call 11; refine (mulI (10 ^ i) 10 _ _ _ _ _ _ _ _ _ HX2.out H2.out (by omega) (by omega)).mono ?_; rintro e w3 ⟨s3, A3, n3, c3, rfl, h3, hb3⟩; have z3 := hb3.size; (try simp at z3); have H3 := Lib.hid h3; clear h3; have KX3 := KX2.below hb3; have KR3 := KR2.below hb3; have cx3 := Blk.cell KX3; have fx3 := Blk.frozen KX3; have lcx3 := Blk.lt KX3))
      all_goals go_wp2
      all_goals go_roundw
      all_goals (first
        | exact ⟨i + 1, s3, A3, n3, c3, by go_num, by omega, Blk.put2 KX3 _ _, by rw [← E.out]; exact IsN.put H3.out KX3 _ _, (by repeat (first | with_reducible assumption | (with_reducible refine Blk.newAt _ _ _ _ ?_; (first | rfl | (simp; done))) | with_reducible refine Blk.drew ?_ | with_reducible refine Blk.alloc ?_ _ | with_reducible refine Blk.drewN ?_ _ | with_reducible apply Blk.put2 | (with_reducible refine Blk.far ?_ ?_ _; rotate_left; (first | omega | (simp <;> omega))) | with_reducible refine Blk.below ?_ (by with_reducible assumption))), (by repeat (first | with_reducible exact Below.refl _ _ | with_reducible refine Below.drew ?_ | with_reducible refine below_alloc ?_ _ | (with_reducible refine below_set ?_ ?_ _; rotate_left; (first | omega | (simp <;> omega))) | with_reducible refine below_drewN ?_ _ | with_reducible refine below_tr ?_ (by with_reducible assumption)))⟩
        | (simp [intOf]; omega))
    · obtain rfl : i = m := by omega
      have hge30 : (30 : Int) ≤ (i : Int) := by omega
      have cr := Blk.cell KR; have fr := Blk.frozen KR; have lcr := Blk.lt KR
      go_wp2
      exact bodyPost_ret (v := .agg #[.bool s, .slice A n c]) (by simp [results, Try.results14, go_sem, cr]) rfl ⟨s, A, n, c, rfl, IsN.put HX.out KR _ _, (by repeat (first | with_reducible exact Below.refl _ _ | with_reducible refine Below.drew ?_ | with_reducible refine below_alloc ?_ _ | (with_reducible refine below_set ?_ ?_ _; rotate_left; (first | omega | (simp <;> omega))) | with_reducible refine below_drewN ?_ _ | with_reducible refine below_tr ?_ (by with_reducible assumption)))⟩
/-- Ten to the power of thirty, under a name. -/
def tenP : Int := 10 ^ 30
theorem dl_tenP : dl tenP ≤ 31 := dl_pow10 30
theorem tenI (w : World) : Calls Try.prog 14 #[] w (RetI tenP w) := tenN 30 (Nat.le_refl _) (Nat.le_refl _) w

theorem fieldD (s : Bool) (A : Option Addr) (n c : Nat) (w : World) : (Instr.field 28 (.agg #[.bool s, .slice A n c]) 1).run Try.prog w = .ok (.slice A n c) w := by kernel_rfl
set_option maxHeartbeats 4000000 in
theorem fitsI (z : Int) (s : Bool) (A : Option Addr) (n c : Nat) (k : Nat) (w : World) (hk : k ≤ 5000) (h : IsN w z s A n c) :
    Calls Try.prog 27 #[.agg #[.bool s, .slice A n c], .int .i64 ((k : Int))] w fun e w' => e = .returned (.bool (decide (z.natAbs < 2 ^ k))) ∧ Below w.heap.size w w' := by
  have H := Lib.hid (fun w' (hb : Below w.heap.size w w') => h.below hb)
  have TW := Lib.hid (fun w => twoI k w hk)
  have e := pow_abs 2 k
  rw [show ((2 : Nat) : Int) = 2 from rfl] at e
  have E := Lib.hid e
  clear h e
  have fd := fieldD
  go_enter Try.func27, Try.ntmps27
  go_wp2
  go_region_with (first
    | (go_at_call 13; refine (TW.out _).mono ?_; rintro e w1 ⟨s1, A1, n1, c1, rfl, h1, hb1⟩; have z1 := hb1.size; (try simp at z1); have H1 := Lib.hid h1; clear h1; have KX1 := Blk.below (Blk.drew (Blk.new w #[.bool s, .slice A n c] _)) hb1; have cx1 := Blk.cell KX1; have fx1 := Blk.frozen KX1; have lcx1 := Blk.lt KX1)
    | (go_at_call 17; refine (lessI z (2 ^ k) _ _ _ _ _ _ _ _ _ (H.out _ (by repeat (first | with_reducible exact Below.refl _ _ | with_reducible refine Below.drew ?_ | with_reducible refine below_alloc ?_ _ | (with_reducible refine below_set ?_ ?_ _; rotate_left; (first | omega | (simp <;> omega))) | with_reducible refine below_drewN ?_ _ | with_reducible refine below_tr ?_ (by with_reducible assumption)))) H1.out).mono ?_; rw [E.out]; rintro e w2 ⟨rfl, hb2⟩; have z2 := hb2.size; (try simp at z2)))
  all_goals go_wp2
  all_goals go_ret
  all_goals exact ⟨rfl, (by repeat (first | with_reducible exact Below.refl _ _ | with_reducible refine Below.drew ?_ | with_reducible refine below_alloc ?_ _ | (with_reducible refine below_set ?_ ?_ _; rotate_left; (first | omega | (simp <;> omega))) | with_reducible refine below_drewN ?_ _ | with_reducible refine below_tr ?_ (by with_reducible assumption)))⟩
end Go.Proofs.Ythopiolbnhjgnaa
