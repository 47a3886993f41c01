/- Wide numbers of the reference: two and ten to a power; whether a number fits; walked. -/
import Derived.Test.YthopiolbnhjgnaaWnum
set_option linter.unusedSimpArgs false
set_option linter.unusedVariables false
set_option maxRecDepth 20000
namespace Go.Proofs.Ythopiolbnhjgnaa
open Go.RowKit



theorem pow_abs (b j : Nat) : ((b : Int) ^ j).natAbs = b ^ j := by
  rw [← Int.natCast_pow, Int.natAbs_natCast]
theorem dl_pow2 (j : Nat) : dl ((2 : Int) ^ j) ≤ j + 1 := by
  apply dl_lt
  have e := pow_abs 2 j
  rw [show ((2 : Nat) : Int) = 2 from rfl] at e
  rw [e]
  exact Nat.lt_of_le_of_lt (Nat.pow_le_pow_left (by decide) j) (Nat.pow_lt_pow_right (by decide) (by omega))
theorem dl_pow10 (j : Nat) : dl ((10 : Int) ^ j) ≤ j + 1 := by
  apply dl_lt
  have e := pow_abs 10 j
  rw [show ((10 : Nat) : Int) = 10 from rfl] at e
  rw [e]
  exact Nat.pow_lt_pow_right (by decide) (by omega)

set_option maxHeartbeats 4000000 in
theorem twoI (k : Nat) (w : World) (hk : k ≤ 5000) : Calls Try.prog 13 #[.int .i64 ((k : Int))] w (RetI (2 ^ k) w) := by
  go_enter Try.func13, Try.ntmps13
  go_wp2_with (go_at_call 12; refine (ofI 1 _ (by unfold I64; omega)).mono ?_; rintro e w1 ⟨s1, A1, n1, c1, rfl, h1, hb1⟩; have z1 := hb1.size; (try simp at z1); have KR1 := Blk.below (Blk.new w #[.bool false, .slice none 0 0] _) hb1; have H1 := Lib.hid h1; clear h1; have KX1 := Blk.new w1 #[.bool s1, .slice A1 n1 c1] 28; have HX1 := Lib.hid (IsN.alloc H1.out (.cells #[.bool s1, .slice A1 n1 c1] 28)))
  go_loopw [4] (fun iv wr => ∃ (i : Nat) (s : Bool) (A : Option Addr) (n c : Nat), iv = .int .i64 ((i : Int)) ∧ i ≤ k ∧ i % 30 = 0 ∧ Blk wr w1.heap.size #[.bool s, .slice A n c] ∧ IsN wr (2 ^ i) s A n c ∧ Blk wr w.heap.size #[.bool false, .slice none 0 0] ∧ Below w.heap.size w wr) (fun iv _ => k - (intOf iv).toNat)
  case atStart => exact ⟨0, s1, A1, n1, c1, rfl, Nat.zero_le _, rfl, KX1, HX1.out, (by repeat (first | with_reducible assumption | (with_reducible refine Blk.newAt _ _ _ _ ?_; (first | rfl | (simp; done))) | with_reducible refine Blk.drew ?_ | with_reducible refine Blk.alloc ?_ _ | with_reducible refine Blk.drewN ?_ _ | with_reducible apply Blk.put2 | (with_reducible refine Blk.far ?_ ?_ _; rotate_left; (first | omega | (simp <;> omega))) | with_reducible refine Blk.below ?_ (by with_reducible assumption))), (by repeat (first | with_reducible exact Below.refl _ _ | with_reducible refine Below.drew ?_ | with_reducible refine below_alloc ?_ _ | (with_reducible refine below_set ?_ ?_ _; rotate_left; (first | omega | (simp <;> omega))) | with_reducible refine below_drewN ?_ _ | with_reducible refine below_tr ?_ (by with_reducible assumption)))⟩
  case round =>
    clear KX1 HX1 H1 hb1 KR1
    obtain ⟨i, s, A, n, c, rfl, hi, him, KX, hX, KR, hb⟩ := hrel
    have ln := dl_pow2 i
    rw [← hX.2.1] at ln
    have HX := Lib.hid hX
    clear hX
    have l1 := KX.lt
    have l2 := KR.lt
    have cx := Blk.cell KX; have fx := Blk.frozen KX; have lcx := Blk.lt KX
    by_cases hlt : i + 30 ≤ k
    · have E := Lib.hid (show (2 : Int) ^ i * 1073741824 = 2 ^ (i + 30) by rw [Int.pow_add]; rfl)
      have M := Lib.hid him
      clear him
      go_wp2
      go_region_with (first
        | (go_at_call 12; refine (ofI 1073741824 _ (by unfold I64; omega)).mono ?_; rintro e w2 ⟨s2, A2, n2, c2, rfl, h2, hb2⟩; have z2 := hb2.size; (try simp at z2); have ln2 := dl_lt 1073741824 20 (by omega); rw [← h2.2.1] at ln2; have H2 := Lib.hid h2; clear h2; have KX2 := Blk.below (Blk.drew KX) hb2; have KR2 := Blk.below (Blk.drew KR) hb2; have HX2 := Lib.hid (IsN.below (IsN.drew HX.out) hb2); have cx2 := Blk.cell KX2; have fx2 := Blk.frozen KX2; have lcx2 := Blk.lt KX2)
        | (go_at_call 11; refine (mulI (2 ^ i) 1073741824 _ _ _ _ _ _ _ _ _ HX2.out H2.out (by omega) (by omega)).mono ?_; rintro e w3 ⟨s3, A3, n3, c3, rfl, h3, hb3⟩; have z3 := hb3.size; (try simp at z3); have H3 := Lib.hid h3; clear h3; have KX3 := KX2.below hb3; have KR3 := KR2.below hb3; have cx3 := Blk.cell KX3; have fx3 := Blk.frozen KX3; have lcx3 := Blk.lt KX3))
      all_goals go_wp2
      all_goals go_roundw
      all_goals (first
        | exact ⟨i + 30, s3, A3, n3, c3, by go_num, by omega, by have := M.out; omega, Blk.put2 KX3 _ _, by rw [← E.out]; exact IsN.put H3.out KX3 _ _, (by repeat (first | with_reducible assumption | (with_reducible refine Blk.newAt _ _ _ _ ?_; (first | rfl | (simp; done))) | with_reducible refine Blk.drew ?_ | with_reducible refine Blk.alloc ?_ _ | with_reducible refine Blk.drewN ?_ _ | with_reducible apply Blk.put2 | (with_reducible refine Blk.far ?_ ?_ _; rotate_left; (first | omega | (simp <;> omega))) | with_reducible refine Blk.below ?_ (by with_reducible assumption))), (by repeat (first | with_reducible exact Below.refl _ _ | with_reducible refine Below.drew ?_ | with_reducible refine below_alloc ?_ _ | (with_reducible refine below_set ?_ ?_ _; rotate_left; (first | omega | (simp <;> omega))) | with_reducible refine below_drewN ?_ _ | with_reducible refine below_tr ?_ (by with_reducible assumption)))⟩
        | (simp [intOf]; omega))
    · obtain ⟨m, hm⟩ : ∃ m : Nat, k = i + m := ⟨k - i, by omega⟩
      have m30 : m < 30 := by omega
      have hmod : (k : Int) % 30 = (m : Int) := by omega
      have HM := Lib.hid hm
      clear hm him
      go_wp2
      go_loopw [5] (fun jv wr => ∃ (j : Nat) (s : Bool) (A : Option Addr) (n c : Nat), jv = .int .i64 ((j : Int)) ∧ j ≤ m ∧ Blk wr w1.heap.size #[.bool s, .slice A n c] ∧ IsN wr (2 ^ (i + j)) s A n c ∧ Blk wr w.heap.size #[.bool false, .slice none 0 0] ∧ Below w.heap.size w wr) (fun jv _ => m - (intOf jv).toNat)
      case atStart => exact ⟨0, s, A, n, c, rfl, Nat.zero_le _, KX, HX.out, KR, hb⟩
      case round =>
        clear KX HX KR hb cx fx lcx l1 l2 ln
        obtain ⟨j, s, A, n, c, rfl, hj, KX, hX, KR, hb⟩ := hrel
        have ln := dl_pow2 (i + j)
        rw [← hX.2.1] at ln
        have HX := Lib.hid hX
        clear hX
        have l1 := KX.lt
        have l2 := KR.lt
        have lij : i + j ≤ 5000 := by have := HM.out; omega
        have cx := Blk.cell KX; have fx := Blk.frozen KX; have lcx := Blk.lt KX
        by_cases hlt : j < m
        · have E := Lib.hid (show (2 : Int) ^ (i + j) + 2 ^ (i + j) = 2 ^ (i + (j + 1)) by rw [show i + (j + 1) = i + j + 1 by omega, Int.pow_succ]; omega)
          go_wp2_with (go_at_call 15; refine (addI (2 ^ (i + j)) (2 ^ (i + j)) _ _ _ _ _ _ _ _ _ HX.out HX.out (by omega) (by omega)).mono ?_; rintro e w3 ⟨s3, A3, n3, c3, rfl, h3, hb3⟩; have z3 := hb3.size; (try simp at z3); have H3 := Lib.hid h3; clear h3; have KX3 := KX.below hb3; have KR3 := KR.below hb3; have cx3 := Blk.cell KX3; have fx3 := Blk.frozen KX3; have lcx3 := Blk.lt KX3)
          go_roundw
          case rel => exact ⟨j + 1, s3, A3, n3, c3, by go_num, by omega, Blk.put2 KX3 _ _, by rw [← E.out]; exact IsN.put H3.out KX3 _ _, (by repeat (first | with_reducible assumption | (with_reducible refine Blk.newAt _ _ _ _ ?_; (first | rfl | (simp; done))) | with_reducible refine Blk.drew ?_ | with_reducible refine Blk.alloc ?_ _ | with_reducible refine Blk.drewN ?_ _ | with_reducible apply Blk.put2 | (with_reducible refine Blk.far ?_ ?_ _; rotate_left; (first | omega | (simp <;> omega))) | with_reducible refine Blk.below ?_ (by with_reducible assumption))), (by repeat (first | with_reducible exact Below.refl _ _ | with_reducible refine Below.drew ?_ | with_reducible refine below_alloc ?_ _ | (with_reducible refine below_set ?_ ?_ _; rotate_left; (first | omega | (simp <;> omega))) | with_reducible refine below_drewN ?_ _ | with_reducible refine below_tr ?_ (by with_reducible assumption)))⟩
          case measure => simp [intOf]; omega
        · obtain rfl : j = m := by omega
          have cr := Blk.cell KR; have fr := Blk.frozen KR; have lcr := Blk.lt KR
          go_wp2
          exact bodyPost_ret (v := .agg #[.bool s, .slice A n c]) (by simp [results, Try.results13, go_sem, cr]) rfl ⟨s, A, n, c, rfl, by rw [HM.out]; exact IsN.put HX.out KR _ _, (by repeat (first | with_reducible exact Below.refl _ _ | with_reducible refine Below.drew ?_ | with_reducible refine below_alloc ?_ _ | (with_reducible refine below_set ?_ ?_ _; rotate_left; (first | omega | (simp <;> omega))) | with_reducible refine below_drewN ?_ _ | with_reducible refine below_tr ?_ (by with_reducible assumption)))⟩
end Go.Proofs.Ythopiolbnhjgnaa
