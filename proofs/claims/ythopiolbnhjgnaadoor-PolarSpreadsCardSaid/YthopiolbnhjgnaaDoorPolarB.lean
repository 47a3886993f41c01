/- A plot as a place: the spreads, and the whole, walked. -/
import Derived.Test.YthopiolbnhjgnaaDoorPolarA
set_option linter.unusedSimpArgs false
set_option linter.unusedVariables false
set_option maxRecDepth 20000
namespace Go.Proofs.YthopiolbnhjgnaaDoor
open Go.RowKit




theorem m30_64 (a b : Int) : I64 (m30 a b) := by have := m30_bd a b; unfold I64; omega
theorem m20_64 (a b : Int) : I64 (m20 a b) := by have := m20_bd a b; unfold I64; omega
theorem sinT_64 (t : Int) : I64 (sinT t) := sinT_bd t
theorem cosT_64 (t : Int) : I64 (cosT t) := cosT_bd t

set_option maxHeartbeats 4000000 in
theorem spread_any (g : Nat) (R T far : Int) (ov : Bool) (w : World) (hR : I64 R) (hT : I64 T) (hf : I64 far) (K : Blk w g #[.bool ov, .nilIface]) :
    Calls Tryd.prog 80 #[.pointer (some ⟨g, 0, none⟩), .agg #[.int .i64 (R), .int .i64 (T)], .int .i64 (far)] w fun e w' =>
      e = .returned (.tuple #[.int .i64 (alongF R), .int .i64 (acrossF T far)]) ∧ Blk w' g #[.bool (ov || o20 R R || o30 far T || o20 (farF T far) (farF T far)), .nilIface] ∧ Bx g w w' := by
  have lg := K.lt
  have HR := Lib.hid hR
  have HT := Lib.hid hT
  have HF := Lib.hid hf
  have HD := Lib.hid (m30_64 far T)
  clear hR hT hf
  go_enter Tryd.func80, Tryd.ntmps80
  go_wp2
  go_region_held3 (fun w' => w'.cell? ⟨w.heap.size, 0, none⟩ = some (.int .i64 (R)) ∧ w'.cell? ⟨w.heap.size, 1, none⟩ = some (.int .i64 (T))) (first | (go_keep; done) | (exact ⟨(Blk.cell (cs := #[.int .i64 (R), .int .i64 (T)]) (by repeat (first | with_reducible assumption | with_reducible exact Blk.new _ _ _ | with_reducible exact Blk.new1 _ _ _ _ | with_reducible exact Blk.new2 _ _ _ _ _ | with_reducible exact Blk.new3 _ _ _ _ _ _ | with_reducible refine Blk.drew ?_ | with_reducible refine Blk.alloc ?_ _ | with_reducible refine Blk.drewN ?_ _ | with_reducible apply Blk.put5 | (with_reducible refine Blk.far ?_ ?_ _; rotate_left; (first | omega | (simp <;> omega))) | with_reducible refine Blk.below ?_ (by with_reducible assumption) | (with_reducible refine Blk.bx ?_ (by with_reducible assumption) ?_; rotate_left; (first | omega | (simp <;> omega))))) 0).trans rfl, (Blk.cell (cs := #[.int .i64 (R), .int .i64 (T)]) (by repeat (first | with_reducible assumption | with_reducible exact Blk.new _ _ _ | with_reducible exact Blk.new1 _ _ _ _ | with_reducible exact Blk.new2 _ _ _ _ _ | with_reducible exact Blk.new3 _ _ _ _ _ _ | with_reducible refine Blk.drew ?_ | with_reducible refine Blk.alloc ?_ _ | with_reducible refine Blk.drewN ?_ _ | with_reducible apply Blk.put5 | (with_reducible refine Blk.far ?_ ?_ _; rotate_left; (first | omega | (simp <;> omega))) | with_reducible refine Blk.below ?_ (by with_reducible assumption) | (with_reducible refine Blk.bx ?_ (by with_reducible assumption) ?_; rotate_left; (first | omega | (simp <;> omega))))) 1).trans rfl⟩)) (first
    | (go_at_call_of 126 (Value.int IntKind.i64 R); refine (square_any g R ov _ HR.out (by repeat (first | with_reducible assumption | with_reducible exact Blk.new _ _ _ | with_reducible exact Blk.new1 _ _ _ _ | with_reducible exact Blk.new2 _ _ _ _ _ | with_reducible exact Blk.new3 _ _ _ _ _ _ | with_reducible refine Blk.drew ?_ | with_reducible refine Blk.alloc ?_ _ | with_reducible refine Blk.drewN ?_ _ | with_reducible apply Blk.put5 | (with_reducible refine Blk.far ?_ ?_ _; rotate_left; (first | omega | (simp <;> omega))) | with_reducible refine Blk.below ?_ (by with_reducible assumption) | (with_reducible refine Blk.bx ?_ (by with_reducible assumption) ?_; rotate_left; (first | omega | (simp <;> omega)))))).mono ?_; rintro e w1 ⟨rfl, K1, hb1⟩; have z1 := hb1.size; (try simp at z1))
    | (go_at_call 81; refine (tdot30 g _ _ _ _ _ _ far T (ov || o20 R R) _ ?_ ?_ HF.out HT.out (by repeat (first | with_reducible assumption | with_reducible exact Blk.new _ _ _ | with_reducible exact Blk.new1 _ _ _ _ | with_reducible exact Blk.new2 _ _ _ _ _ | with_reducible exact Blk.new3 _ _ _ _ _ _ | with_reducible refine Blk.drew ?_ | with_reducible refine Blk.alloc ?_ _ | with_reducible refine Blk.drewN ?_ _ | with_reducible apply Blk.put5 | (with_reducible refine Blk.far ?_ ?_ _; rotate_left; (first | omega | (simp <;> omega))) | with_reducible refine Blk.below ?_ (by with_reducible assumption) | (with_reducible refine Blk.bx ?_ (by with_reducible assumption) ?_; rotate_left; (first | omega | (simp <;> omega)))))).mono ?_; (first | (simp; done) | exact (Blk.cell (cs := #[.int .i64 (far)]) (by repeat (first | with_reducible assumption | with_reducible exact Blk.new _ _ _ | with_reducible exact Blk.new1 _ _ _ _ | with_reducible exact Blk.new2 _ _ _ _ _ | with_reducible exact Blk.new3 _ _ _ _ _ _ | with_reducible refine Blk.drew ?_ | with_reducible refine Blk.alloc ?_ _ | with_reducible refine Blk.drewN ?_ _ | with_reducible apply Blk.put5 | (with_reducible refine Blk.far ?_ ?_ _; rotate_left; (first | omega | (simp <;> omega))) | with_reducible refine Blk.below ?_ (by with_reducible assumption) | (with_reducible refine Blk.bx ?_ (by with_reducible assumption) ?_; rotate_left; (first | omega | (simp <;> omega))))) 0).trans rfl); (first | (simp; done) | exact (Blk.cell (cs := #[.int .i64 (T)]) (by repeat (first | with_reducible assumption | with_reducible exact Blk.new _ _ _ | with_reducible exact Blk.new1 _ _ _ _ | with_reducible exact Blk.new2 _ _ _ _ _ | with_reducible exact Blk.new3 _ _ _ _ _ _ | with_reducible refine Blk.drew ?_ | with_reducible refine Blk.alloc ?_ _ | with_reducible refine Blk.drewN ?_ _ | with_reducible apply Blk.put5 | (with_reducible refine Blk.far ?_ ?_ _; rotate_left; (first | omega | (simp <;> omega))) | with_reducible refine Blk.below ?_ (by with_reducible assumption) | (with_reducible refine Blk.bx ?_ (by with_reducible assumption) ?_; rotate_left; (first | omega | (simp <;> omega))))) 0).trans rfl); rintro e w2 ⟨rfl, K2, hb2⟩; have z2 := hb2.size; (try simp at z2))
    | (go_at_call 126; refine (square_any g (m30 far T) (ov || o20 R R || o30 far T) _ HD.out (by repeat (first | with_reducible assumption | with_reducible exact Blk.new _ _ _ | with_reducible exact Blk.new1 _ _ _ _ | with_reducible exact Blk.new2 _ _ _ _ _ | with_reducible exact Blk.new3 _ _ _ _ _ _ | with_reducible refine Blk.drew ?_ | with_reducible refine Blk.alloc ?_ _ | with_reducible refine Blk.drewN ?_ _ | with_reducible apply Blk.put5 | (with_reducible refine Blk.far ?_ ?_ _; rotate_left; (first | omega | (simp <;> omega))) | with_reducible refine Blk.below ?_ (by with_reducible assumption) | (with_reducible refine Blk.bx ?_ (by with_reducible assumption) ?_; rotate_left; (first | omega | (simp <;> omega)))))).mono ?_; rintro e w3 ⟨rfl, K3, hb3⟩; have z3 := hb3.size; (try simp at z3)))
  all_goals go_wp2
  all_goals go_ret2
  all_goals exact ⟨rfl, K3, (by repeat (first | with_reducible exact Bx.refl _ _ | with_reducible refine Bx.drew ?_ | with_reducible refine Bx.alloc ?_ _ | with_reducible refine Bx.drewN ?_ _ | with_reducible refine Bx.trans ?_ (by with_reducible assumption) | with_reducible refine Bx.trans ?_ (Bx.of_below (by with_reducible assumption))))⟩

theorem mayS_of {R T : Int} (h : mayS R T = true) : 1 ≤ R ∧ R ≤ 17179869184 ∧ 1 ≤ T ∧ T ≤ 268435456 := of_decide_eq_true h
set_option maxHeartbeats 1000000 in
theorem pSpread_yes (R T far : Int) (w : World) (hS : mayS R T = true) (h0 : 0 ≤ far) (h1 : far ≤ 1099511627776) :
    Calls Tryd.prog 27 #[.agg #[.int .i64 (R), .int .i64 (T)], .int .i64 (far)] w fun e w' => e = .returned (.tuple #[.int .i64 (alongF R), .int .i64 (acrossF T far), .nilIface]) ∧ Below w.heap.size w w' := by
  obtain ⟨R0, R1, T0, T1⟩ := mayS_of hS
  have HR := Lib.hid (show I64 R by unfold I64; omega)
  have HT := Lib.hid (show I64 T by unfold I64; omega)
  have HF := Lib.hid (show I64 far by unfold I64; omega)
  clear hS
  go_enter Tryd.func27, Tryd.ntmps27
  go_wp2_with (first
    | (go_at_call 29; refine (check_yes R T _ R0 R1 T0 T1).mono ?_; rintro e w1 ⟨rfl, hb1⟩; have z1 := hb1.size; (try simp at z1); have KB := Blk.below (Blk.new w #[.int .i64 (R), .int .i64 (T)] _) hb1; have cB := Blk.cell KB; have fB := Blk.frozen KB; have lcB := Blk.lt KB)
    | (go_at_call 80; refine (spread_any _ R T far false _ HR.out HT.out HF.out (by repeat (first | with_reducible assumption | with_reducible exact Blk.new _ _ _ | with_reducible exact Blk.new1 _ _ _ _ | with_reducible exact Blk.new2 _ _ _ _ _ | with_reducible exact Blk.new3 _ _ _ _ _ _ | with_reducible refine Blk.drew ?_ | with_reducible refine Blk.alloc ?_ _ | with_reducible refine Blk.drewN ?_ _ | with_reducible apply Blk.put5 | (with_reducible refine Blk.far ?_ ?_ _; rotate_left; (first | omega | (simp <;> omega))) | with_reducible refine Blk.below ?_ (by with_reducible assumption) | (with_reducible refine Blk.bx ?_ (by with_reducible assumption) ?_; rotate_left; (first | omega | (simp <;> omega)))))).mono ?_; rintro e w2 ⟨rfl, K2, hb2⟩; have z2 := hb2.size; (try simp at z2); have c2 := Blk.cell K2; have f2 := Blk.frozen K2; have lc2 := Blk.lt K2))
  go_region
  go_wp2
  go_ret3
  exact ⟨rfl, (by repeat (first | with_reducible exact Below.refl _ _ | with_reducible refine Below.drew ?_ | with_reducible refine below_alloc ?_ _ | (with_reducible refine below_set ?_ ?_ _; rotate_left; (first | omega | (simp <;> omega))) | with_reducible refine below_drewN ?_ _ | with_reducible refine below_tr ?_ (by with_reducible assumption) | (with_reducible refine Bx.below ?_ (by with_reducible assumption) ?_; rotate_left; (first | omega | (simp <;> omega)))))⟩
set_option maxHeartbeats 1000000 in
theorem pSpread_bad (R T far : Int) (w : World) (hS : mayS R T = false) :
    Calls Tryd.prog 27 #[.agg #[.int .i64 (R), .int .i64 (T)], .int .i64 (far)] w fun e w' => e = .returned (.tuple #[.int .i64 (0), .int .i64 (0), (.iface 115 (.int .i64 1))]) ∧ Below w.heap.size w w' := by
  go_enter Tryd.func27, Tryd.ntmps27
  go_wp2_with (first
    | (go_at_call 29; refine (check_no R T _ hS).mono ?_; rintro e w1 ⟨rfl, hb1⟩; have z1 := hb1.size; (try simp at z1)))
  go_ret3
  exact ⟨rfl, (by repeat (first | with_reducible exact Below.refl _ _ | with_reducible refine Below.drew ?_ | with_reducible refine below_alloc ?_ _ | (with_reducible refine below_set ?_ ?_ _; rotate_left; (first | omega | (simp <;> omega))) | with_reducible refine below_drewN ?_ _ | with_reducible refine below_tr ?_ (by with_reducible assumption) | (with_reducible refine Bx.below ?_ (by with_reducible assumption) ?_; rotate_left; (first | omega | (simp <;> omega)))))⟩
set_option maxHeartbeats 1000000 in
theorem pSpread_far (R T far : Int) (w : World) (hS : mayS R T = true) (h : far < 0 ∨ 1099511627776 < far) :
    Calls Tryd.prog 27 #[.agg #[.int .i64 (R), .int .i64 (T)], .int .i64 (far)] w fun e w' => e = .returned (.tuple #[.int .i64 (0), .int .i64 (0), (.iface 115 (.int .i64 1))]) ∧ Below w.heap.size w w' := by
  obtain ⟨R0, R1, T0, T1⟩ := mayS_of hS
  clear hS
  by_cases hf : far < 0
  all_goals
    go_enter Tryd.func27, Tryd.ntmps27
    go_wp2_with (first
      | (go_at_call 29; refine (check_yes R T _ R0 R1 T0 T1).mono ?_; rintro e w1 ⟨rfl, hb1⟩; have z1 := hb1.size; (try simp at z1)))
    go_ret3
    exact ⟨rfl, (by repeat (first | with_reducible exact Below.refl _ _ | with_reducible refine Below.drew ?_ | with_reducible refine below_alloc ?_ _ | (with_reducible refine below_set ?_ ?_ _; rotate_left; (first | omega | (simp <;> omega))) | with_reducible refine below_drewN ?_ _ | with_reducible refine below_tr ?_ (by with_reducible assumption) | (with_reducible refine Bx.below ?_ (by with_reducible assumption) ?_; rotate_left; (first | omega | (simp <;> omega)))))⟩
end Go.Proofs.YthopiolbnhjgnaaDoor
