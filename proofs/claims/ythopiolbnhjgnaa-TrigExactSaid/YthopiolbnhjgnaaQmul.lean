/- The number layer: a product, and a number with other bits, walked. -/
import Derived.Test.YthopiolbnhjgnaaQdot
set_option linter.unusedSimpArgs false
set_option linter.unusedVariables false
set_option maxRecDepth 20000
namespace Go.Proofs.Ythopiolbnhjgnaa
open Go.RowKit


theorem mov_in (a : Int) (k : Nat) (ha : I64 a) : (-3138550867693340381917894711603833208051177722232017256448 ≤ a ∧ a < 3138550867693340381917894711603833208051177722232017256448) ∧
    (-3138550867693340381917894711603833208051177722232017256448 ≤ rq a (2 ^ k) + -4611686018427387904 ∧ rq a (2 ^ k) + 4611686018427387903 < 3138550867693340381917894711603833208051177722232017256448) := by
  unfold I64 at ha
  have hp : (0 : Int) < 2 ^ k := Int.pow_pos (by decide)
  have h2 := rq_bd a (2 ^ k) 9223372036854775808 (by omega) (by decide) (by omega) (by omega)
  omega

set_option maxHeartbeats 4000000 in
theorem mul_any (a b : Int) (k : Nat) (w : World) (hk : k ≤ 62) (ha : I64 a) (hb : I64 b) :
    Calls Try.prog 36 #[.int .i64 a, .int .i64 b, .int .i64 k] w fun e w' =>
      e = .returned (.tuple #[.int .i64 (bnd (rq (a * b) (2 ^ k))), .bool (ovr (rq (a * b) (2 ^ k))), .nilIface]) ∧ Below w.heap.size w w' := by
  have e : dotS (fun _ => a) (fun _ => b) 1 = a * b := by simp [dotS]
  have E := Lib.hid e
  clear e
  go_enter Try.func36, Try.ntmps36
  go_wp2_with (first
        | (go_at_call 41; refine (dot_some _ _ _ _ _ _ 1 k (fun _ => a) (fun _ => b) _ (by decide) hk ?_ ?_ (fun _ _ => ha) (fun _ _ => hb) (by decide)).mono ?_; (intro i hi; obtain rfl : i = 0 := (by omega); simp); (intro i hi; obtain rfl : i = 0 := (by omega); simp); rintro e w1 ⟨rfl, hb1⟩))
  go_ret3
  exact ⟨by rw [E.out]; rfl, (by repeat (first | with_reducible exact Below.refl _ _ | with_reducible refine Below.drew ?_ | with_reducible refine below_alloc ?_ _ | (with_reducible refine below_set ?_ ?_ _; rotate_left; (first | omega | (simp <;> omega))) | with_reducible refine below_drewN ?_ _ | with_reducible refine below_tr ?_ (by with_reducible assumption)))⟩

set_option maxHeartbeats 4000000 in
theorem move_down (a : Int) (k : Nat) (w : World) (hk : k ≤ 62) (h1 : 1 ≤ k) (ha : I64 a) :
    Calls Try.prog 37 #[.int .i64 a, .int .i64 k, .int .i64 0] w fun e w' =>
      e = .returned (.tuple #[.int .i64 (bnd (rq a (2 ^ k))), .bool (ovr (rq a (2 ^ k))), .nilIface]) ∧ Below w.heap.size w w' := by
  have hk0 : ¬ (k : Int) ≤ 0 := by omega
  have D := Lib.hid (mov_in a k ha)
  go_enter Try.func37, Try.ntmps37
  go_wp2_with (first
    | (go_at_call 42; first | (refine (pointed_ok k _ hk).mono ?_; rintro e w' ⟨rfl, rfl⟩) | (refine (pointed_ok 0 _ (by decide)).mono ?_; rintro e w' ⟨rfl, rfl⟩))
    | (go_at_call 43; refine (of_any a _ ha.1 ha.2).mono ?_; rintro e w1 ⟨rfl, hb1⟩; have z1 := hb1.size; (try simp at z1))
    | (go_at_call 45; refine (half_any a k _ hk D.out.1.1 D.out.1.2).mono ?_; rintro e w2 ⟨rfl, hb2⟩; have K2 := (Blk.new w1 _ _).below hb2; have c2 := Blk.cell K2; have f2 := Blk.frozen K2; have lc2 := Blk.lt K2)
    | (go_at_call 46; refine (bounded_any _ _ D.out.2.1 D.out.2.2).mono ?_; rintro e w3 ⟨rfl, hb3⟩))
  go_ret3
  exact ⟨rfl, (by repeat (first | with_reducible exact Below.refl _ _ | with_reducible refine Below.drew ?_ | with_reducible refine below_alloc ?_ _ | (with_reducible refine below_set ?_ ?_ _; rotate_left; (first | omega | (simp <;> omega))) | with_reducible refine below_drewN ?_ _ | with_reducible refine below_tr ?_ (by with_reducible assumption)))⟩
end Go.Proofs.Ythopiolbnhjgnaa
