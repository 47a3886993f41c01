/- The law of layer 5 on exact sines and cosines, walked. -/
import Derived.Test.YthopiolbnhjgnaaNear
import Derived.Test.YthopiolbnhjgnaaNorm
import Derived.Test.YthopiolbnhjgnaaTrigD
set_option linter.unusedSimpArgs false
set_option linter.unusedVariables false
set_option maxRecDepth 20000
namespace Go.Proofs.Ythopiolbnhjgnaa
open Go.RowKit





theorem sure_both (w : World) : Calls Try.prog 4 #[.int .u32 0] w fun e w' => e = .returned (.tuple #[.int .i64 (0), .int .i64 (1073741824)]) ∧ Below w.heap.size w w' := by
  have h := both_any 0 w (by decide) (by decide)
  have e1 : sinT 0 = 0 := by decide +kernel
  have e2 : cosT 0 = 1073741824 := by decide +kernel
  rw [e1, e2] at h
  exact h
theorem sure_angle (w : World) : Calls Try.prog 18 #[.int .i64 (1000), .int .i64 (0)] w fun e w' => e = .returned (.tuple #[.int .u32 1073741824, .nilIface]) ∧ Below w.heap.size w w' := by
  have h := angle_any 1000 0 w (by decide) (by decide) (by decide) (by decide) (by decide)
  have e1 : angT 1000 0 = 1073741824 := by decide +kernel
  rw [e1] at h
  exact h
theorem sure_far (w : World) : Calls Try.prog 19 #[.int .i64 (3), .int .i64 (-4)] w fun e w' => e = .returned (.tuple #[.int .i64 (5), .nilIface]) ∧ w = w' := by
  have h := far_yes 3 (-4) w (by decide) (by decide) (by decide) (by decide)
  have e1 : far 3 (-4) = 5 := by decide +kernel
  rw [e1] at h
  exact h
theorem sure_place (w : World) : Calls Try.prog 20 #[.int .u32 2147483648, .int .i64 (1000)] w fun e w' => e = .returned (.tuple #[.int .i64 (0), .int .i64 (-1000), .nilIface]) ∧ Below w.heap.size w w' := by
  have h := place_any 2147483648 1000 w (by decide) (by decide) (by decide) (by decide)
  have e1 : placeX 2147483648 1000 = 0 := by decide +kernel
  have e2 : placeY 2147483648 1000 = -1000 := by decide +kernel
  rw [e1, e2] at h
  exact h
theorem sure05 (w : World) : Calls Try.prog 7 #[] w fun e w' => e = .returned (.bool true) ∧ Below w.heap.size w w' := by
  go_enter Try.func7, Try.ntmps7
  go_wp2_with (first
    | (go_at_call 4; refine (sure_both _).mono ?_; rintro e w1 ⟨rfl, hb1⟩; have z1 := hb1.size; (try simp at z1))
    | (go_at_call 18; refine (sure_angle _).mono ?_; rintro e w2 ⟨rfl, hb2⟩; have z2 := hb2.size; (try simp at z2))
    | (go_at_call 19; refine (sure_far _).mono ?_; rintro e w' ⟨rfl, rfl⟩)
    | (go_at_call 20; refine (sure_place _).mono ?_; rintro e w3 ⟨rfl, hb3⟩; have z3 := hb3.size; (try simp at z3)))
  go_ret
  exact ⟨rfl, (by repeat (first | with_reducible exact Below.refl _ _ | with_reducible refine Below.drew ?_ | with_reducible refine below_alloc ?_ _ | (with_reducible refine below_set ?_ ?_ _; rotate_left; (first | omega | (simp <;> omega))) | with_reducible refine below_drewN ?_ _ | with_reducible refine below_tr ?_ (by with_reducible assumption)))⟩

theorem sq_nn (a : Int) : 0 ≤ a * a := by rw [← Int.natAbs_mul_self]; omega
theorem near_h (a b : Int) (h0 : -4000000000000000000000000000000 ≤ a * 1000000000000000000000000000000 - b * 1073741824) (h1 : a * 1000000000000000000000000000000 - b * 1073741824 ≤ 4000000000000000000000000000000) :
    ¬ (tenP * 4).natAbs < (a * tenP - b * 2 ^ 30).natAbs := by
  have e : tenP = 1000000000000000000000000000000 := by decide +kernel
  have e2 : (2 : Int) ^ 30 = 1073741824 := by decide
  rw [e, e2]
  omega
set_option maxHeartbeats 4000000 in
theorem exact_law (t : Int) (w : World) (h0 : 0 ≤ t) (h1 : t ≤ 4294967295) :
    Calls Try.prog 3 #[.int .u32 t] w fun e w' => e = .returned (.bool true) ∧ Below w.heap.size w w' := by
  obtain ⟨⟨n1, n2⟩, ⟨n3, n4⟩⟩ := exact_near t h0 h1
  have NS := near_h _ _ n1 n2
  have NC := near_h _ _ n3 n4
  have AB := angI_bd t h0 h1
  obtain ⟨lc, ls⟩ := dl_cs (angI t) AB.1 AB.2 60
  obtain ⟨q2, q3⟩ := turn_sq t
  have BO := Lib.hid (fun w => both_any t w h0 h1)
  have EX := Lib.hid (fun w => exactI t w h0 h1)
  have S64 := sinT_bd t
  have C64 := cosT_bd t
  have q0 := sq_nn (sinT t)
  have q1 := sq_nn (cosT t)
  generalize sinT t = S at *
  generalize cosT t = C at *
  have HS := Lib.hid (fun w' s A m c hz => near_yes S (sI (angI t) 60) s A m c w' S64 hz (by omega) NS)
  have HC := Lib.hid (fun w' s A m c hz => near_yes C (cI (angI t) 60) s A m c w' C64 hz (by omega) NC)
  clear NS NC n1 n2 n3 n4 S64 C64 AB
  go_enter Try.func3, Try.ntmps3
  go_upto_region 5 with (first
    | (go_at_call 4; refine (BO.out _).mono ?_; rintro e w1 ⟨rfl, hb1⟩; have z1 := hb1.size; (try simp at z1))
    | (go_at_call 5; refine (EX.out _).mono ?_; rintro e w2 ⟨s1, A1, m1, c1, s2, A2, m2, c2, rfl, E1, E2, hb2⟩; have z2 := hb2.size; (try simp at z2); have KA := Blk.alloc (Blk.new w2 #[.bool s1, .slice A1 m1 c1] 28) (.cells #[.bool s2, .slice A2 m2 c2] 28); have KB := Blk.new1 w2 (.cells #[.bool s1, .slice A1 m1 c1] 28) #[.bool s2, .slice A2 m2 c2] 28; have E1 := IsN.alloc (IsN.alloc E1 (.cells #[.bool s1, .slice A1 m1 c1] 28)) (.cells #[.bool s2, .slice A2 m2 c2] 28); have E2 := IsN.alloc (IsN.alloc E2 (.cells #[.bool s1, .slice A1 m1 c1] 28)) (.cells #[.bool s2, .slice A2 m2 c2] 28); have tokA := True.intro)
    | (go_at_call 6; have _ := tokA; refine (HS.out _ _ _ _ _ (by repeat (first | with_reducible assumption | with_reducible exact IsN.nil _ | with_reducible refine IsN.drew ?_ | with_reducible refine IsN.alloc ?_ _ | with_reducible refine IsN.drewN ?_ _ | with_reducible refine IsN.below ?_ (by with_reducible assumption)))).mono ?_; rintro e w3 ⟨rfl, hb3⟩; have z3 := hb3.size; (try simp at z3); have KB3 := KB.below hb3; have cB3 := Blk.cell KB3; have fB3 := Blk.frozen KB3; have lcB3 := Blk.lt KB3; clear tokA)
    | (go_at_call 6; refine (HC.out _ _ _ _ _ (by repeat (first | with_reducible assumption | with_reducible exact IsN.nil _ | with_reducible refine IsN.drew ?_ | with_reducible refine IsN.alloc ?_ _ | with_reducible refine IsN.drewN ?_ _ | with_reducible refine IsN.below ?_ (by with_reducible assumption)))).mono ?_; rintro e w4 ⟨rfl, hb4⟩; have z4 := hb4.size; (try simp at z4)))
  go_wp2_with (go_at_call 7; refine (sure05 _).mono ?_; rintro e w5 ⟨rfl, hb5⟩; have z5 := hb5.size; (try simp at z5))
  go_ret
  exact ⟨rfl, (by repeat (first | with_reducible exact Below.refl _ _ | with_reducible refine Below.drew ?_ | with_reducible refine below_alloc ?_ _ | (with_reducible refine below_set ?_ ?_ _; rotate_left; (first | omega | (simp <;> omega))) | with_reducible refine below_drewN ?_ _ | with_reducible refine below_tr ?_ (by with_reducible assumption)))⟩
end Go.Proofs.Ythopiolbnhjgnaa
