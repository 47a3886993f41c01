/- The laws of layer 10: the number of an error, what must come, and a plot a quarter of a turn further; walked. -/
import Derived.Test.YthopiolbnhjgnaaDoorPolarC
import Derived.Test.YthopiolbnhjgnaaDoorErr
set_option linter.unusedSimpArgs false
set_option linter.unusedVariables false
set_option maxRecDepth 20000
namespace Go.Proofs.YthopiolbnhjgnaaDoor
open Go.RowKit




theorem EType.below {w w1 : World} (h : EType w) (hb : Below w.heap.size w w1) : EType w1 := by
  unfold EType at *
  exact (hb.cell (World.block_lt_of_cell? w _ h)).trans h
/-- errors.As, into a variable of the caller's own. -/
theorem as_errno (n old : Int) (g : Nat) (w : World) (hE : EType w) (K : Blk w g #[.int .i64 (old)]) :
    Calls Tryd.prog 64 #[(.iface 115 (.int .i64 n)), .iface 119 (.pointer (some ⟨g, 0, none⟩))] w fun e w' => e = .returned (.bool true) ∧ Blk w' g #[.int .i64 (n)] ∧ Bx g w w' := by
  have lg := K.lt
  refine (as_hit n ⟨g, 0, none⟩ (.int .i64 (old)) w hE ((K.cell 0).trans rfl) (K.frozen 0)).mono ?_
  rintro e w' ⟨rfl, rfl⟩
  refine ⟨rfl, ?_, ?_⟩
  · exact Blk.put (((((K.alloc _).alloc _).alloc _).alloc _)) 0 _ rfl
  · exact (((((Bx.refl g w).alloc _).alloc _).alloc _).alloc _).set _ _
theorem num_nil (w : World) : Calls Tryd.prog 30 #[.nilIface] w fun e w' => e = .returned (.int .i64 (0)) ∧ Below w.heap.size w w' := by
  go_enter Tryd.func30, Tryd.ntmps30
  go_wp2
  go_ret
  exact ⟨rfl, (by repeat (first | with_reducible exact Below.refl _ _ | with_reducible refine Below.drew ?_ | with_reducible refine below_alloc ?_ _ | (with_reducible refine below_set ?_ ?_ _; rotate_left; (first | omega | (simp <;> omega))) | with_reducible refine below_drewN ?_ _ | with_reducible refine below_tr ?_ (by with_reducible assumption) | (with_reducible refine Bx.below ?_ (by with_reducible assumption) ?_; rotate_left; (first | omega | (simp <;> omega)))))⟩
theorem num_err (n : Int) (w : World) (hE : EType w) : Calls Tryd.prog 30 #[(.iface 115 (.int .i64 n))] w fun e w' => e = .returned (.int .i64 (n)) ∧ Below w.heap.size w w' := by
  have HE := Lib.hid (fun w' (hb : Below w.heap.size w w') => hE.below hb)
  go_enter Tryd.func30, Tryd.ntmps30
  go_wp2_with (go_at_call 64; refine (as_errno n 0 w.heap.size _ (HE.out _ (by repeat (first | with_reducible exact Below.refl _ _ | with_reducible refine Below.drew ?_ | with_reducible refine below_alloc ?_ _ | (with_reducible refine below_set ?_ ?_ _; rotate_left; (first | omega | (simp <;> omega))) | with_reducible refine below_drewN ?_ _ | with_reducible refine below_tr ?_ (by with_reducible assumption) | (with_reducible refine Bx.below ?_ (by with_reducible assumption) ?_; rotate_left; (first | omega | (simp <;> omega)))))) (by repeat (first | with_reducible assumption | with_reducible exact Blk.new _ _ _ | with_reducible exact Blk.new1 _ _ _ _ | with_reducible exact Blk.new2 _ _ _ _ _ | with_reducible exact Blk.new3 _ _ _ _ _ _ | with_reducible refine Blk.drew ?_ | with_reducible refine Blk.alloc ?_ _ | with_reducible refine Blk.drewN ?_ _ | with_reducible apply Blk.put5 | (with_reducible refine Blk.far ?_ ?_ _; rotate_left; (first | omega | (simp <;> omega))) | with_reducible refine Blk.below ?_ (by with_reducible assumption) | (with_reducible refine Blk.bx ?_ (by with_reducible assumption) ?_; rotate_left; (first | omega | (simp <;> omega)))))).mono ?_; rintro e w1 ⟨rfl, K1, hb1⟩; have z1 := hb1.size; (try simp at z1); have c1 := Blk.cell K1; have f1 := Blk.frozen K1; have lc1 := Blk.lt K1)
  go_ret
  exact ⟨rfl, (by repeat (first | with_reducible exact Below.refl _ _ | with_reducible refine Below.drew ?_ | with_reducible refine below_alloc ?_ _ | (with_reducible refine below_set ?_ ?_ _; rotate_left; (first | omega | (simp <;> omega))) | with_reducible refine below_drewN ?_ _ | with_reducible refine below_tr ?_ (by with_reducible assumption) | (with_reducible refine Bx.below ?_ (by with_reducible assumption) ?_; rotate_left; (first | omega | (simp <;> omega)))))⟩

theorem sure_of (w : World) : Calls Tryd.prog 26 #[.agg #[.int .i64 (52428800), .int .i64 (1048576)], .agg #[.int .i64 (1048576000), .int .u16 0, .int .i64 (0)]] w fun e w' =>
    e = .returned (.tuple #[.agg #[.int .i64 (0), .int .i64 (1048576000), .int .i64 (1000000), .int .i64 (2621440000), .int .i64 (0)], .bool false, .nilIface]) ∧ Below w.heap.size w w' := by
  refine (pOf_yes 52428800 1048576 1048576000 0 0 w (by decide) (by decide) (by decide) (by decide) (by decide)).mono ?_
  have e1 : pxF (0 * 65536) 1048576000 = 0 := by decide +kernel
  have e2 : pyF (0 * 65536) 1048576000 = 1048576000 := by decide +kernel
  have e3 : xxF 52428800 1048576 (0 * 65536) 1048576000 = 1000000 := by decide +kernel
  have e4 : yyF 52428800 1048576 (0 * 65536) 1048576000 = 2621440000 := by decide +kernel
  have e5 : xyF 52428800 1048576 (0 * 65536) 1048576000 = 0 := by decide +kernel
  have e6 : ofOver 52428800 1048576 (0 * 65536) 1048576000 = false := by decide +kernel
  rw [e1, e2, e3, e4, e5, e6]
  exact fun _ _ h => h
theorem sure_spread (w : World) : Calls Tryd.prog 27 #[.agg #[.int .i64 (52428800), .int .i64 (1048576)], .int .i64 (1048576000)] w fun e w' =>
    e = .returned (.tuple #[.int .i64 (2621440000), .int .i64 (1000000), .nilIface]) ∧ Below w.heap.size w w' := by
  refine (pSpread_yes 52428800 1048576 1048576000 w (by decide) (by decide) (by decide)).mono ?_
  have e1 : alongF 52428800 = 2621440000 := by decide +kernel
  have e2 : acrossF 1048576 1048576000 = 1000000 := by decide +kernel
  rw [e1, e2]
  exact fun _ _ h => h
set_option maxHeartbeats 1000000 in
theorem sure_any (w : World) : Calls Tryd.prog 32 #[] w fun e w' => e = .returned (.bool true) ∧ Below w.heap.size w w' := by
  go_enter Tryd.func32, Tryd.ntmps32
  go_wp2_with (first
    | (go_at_call 26; refine (sure_of _).mono ?_; rintro e w1 ⟨rfl, hb1⟩; have z1 := hb1.size; (try simp at z1))
    | (go_at_call 27; refine (sure_spread _).mono ?_; rintro e w2 ⟨rfl, hb2⟩; have z2 := hb2.size; (try simp at z2); have K2 := (show Blk _ w1.heap.size #[.int .i64 (0), .int .i64 (1048576000), .int .i64 (1000000), .int .i64 (2621440000), .int .i64 (0)] from (by repeat (first | with_reducible assumption | with_reducible exact Blk.new _ _ _ | with_reducible exact Blk.new1 _ _ _ _ | with_reducible exact Blk.new2 _ _ _ _ _ | with_reducible exact Blk.new3 _ _ _ _ _ _ | with_reducible refine Blk.drew ?_ | with_reducible refine Blk.alloc ?_ _ | with_reducible refine Blk.drewN ?_ _ | with_reducible apply Blk.put5 | (with_reducible refine Blk.far ?_ ?_ _; rotate_left; (first | omega | (simp <;> omega))) | with_reducible refine Blk.below ?_ (by with_reducible assumption) | (with_reducible refine Blk.bx ?_ (by with_reducible assumption) ?_; rotate_left; (first | omega | (simp <;> omega)))))).below hb2; have c2 := Blk.cell K2; have f2 := Blk.frozen K2; have lc2 := Blk.lt K2))
  go_ret
  exact ⟨rfl, (by repeat (first | with_reducible exact Below.refl _ _ | with_reducible refine Below.drew ?_ | with_reducible refine below_alloc ?_ _ | (with_reducible refine below_set ?_ ?_ _; rotate_left; (first | omega | (simp <;> omega))) | with_reducible refine below_drewN ?_ _ | with_reducible refine below_tr ?_ (by with_reducible assumption) | (with_reducible refine Bx.below ?_ (by with_reducible assumption) ?_; rotate_left; (first | omega | (simp <;> omega)))))⟩

set_option maxHeartbeats 4000000 in
theorem quarter_bad (R T far az tm : Int) (w : World) (hE : EType w) (h : mayS R T = false ∨ (mayS R T = true ∧ (far < 0 ∨ 1099511627776 < far))) (a0 : 0 ≤ az) (a1 : az ≤ 65535) :
    Calls Tryd.prog 8 #[.agg #[.int .i64 (R), .int .i64 (T)], .agg #[.int .i64 (far), .int .u16 az, .int .i64 (tm)]] w fun e w' => e = .returned (.bool true) ∧ Below w.heap.size w w' := by
  have HE := Lib.hid (fun w' (hb : Below w.heap.size w w') => hE.below hb)
  have BAD := Lib.hid (fun (a : Int) (w : World) => show Calls Tryd.prog 26 #[.agg #[.int .i64 (R), .int .i64 (T)], .agg #[.int .i64 (far), .int .u16 a, .int .i64 (tm)]] w (fun e w' => e = .returned (.tuple #[.agg #[.int .i64 (0), .int .i64 (0), .int .i64 (0), .int .i64 (0), .int .i64 (0)], .bool false, (.iface 115 (.int .i64 1))]) ∧ Below w.heap.size w w') from by
    rcases h with h | ⟨h, h2⟩
    · exact pOf_bad R T far a tm w h
    · exact pOf_far R T far a tm w h h2)
  clear hE h
  go_enter Tryd.func8, Tryd.ntmps8
  go_upto_region 2 with (go_at_call 26; refine (BAD.out az _).mono ?_; rintro e w1 ⟨rfl, hb1⟩; have z1 := hb1.size; (try simp at z1); have KB := (show Blk _ w.heap.size #[.int .i64 (R), .int .i64 (T)] from (by repeat (first | with_reducible assumption | with_reducible exact Blk.new _ _ _ | with_reducible exact Blk.new1 _ _ _ _ | with_reducible exact Blk.new2 _ _ _ _ _ | with_reducible exact Blk.new3 _ _ _ _ _ _ | with_reducible refine Blk.drew ?_ | with_reducible refine Blk.alloc ?_ _ | with_reducible refine Blk.drewN ?_ _ | with_reducible apply Blk.put5 | (with_reducible refine Blk.far ?_ ?_ _; rotate_left; (first | omega | (simp <;> omega))) | with_reducible refine Blk.below ?_ (by with_reducible assumption) | (with_reducible refine Blk.bx ?_ (by with_reducible assumption) ?_; rotate_left; (first | omega | (simp <;> omega)))))).below hb1; have KP := (show Blk _ (w.heap.size + 1) #[.int .i64 (far), .int .u16 az, .int .i64 (tm)] from (by repeat (first | with_reducible assumption | with_reducible exact Blk.new _ _ _ | with_reducible exact Blk.new1 _ _ _ _ | with_reducible exact Blk.new2 _ _ _ _ _ | with_reducible exact Blk.new3 _ _ _ _ _ _ | with_reducible refine Blk.drew ?_ | with_reducible refine Blk.alloc ?_ _ | with_reducible refine Blk.drewN ?_ _ | with_reducible apply Blk.put5 | (with_reducible refine Blk.far ?_ ?_ _; rotate_left; (first | omega | (simp <;> omega))) | with_reducible refine Blk.below ?_ (by with_reducible assumption) | (with_reducible refine Blk.bx ?_ (by with_reducible assumption) ?_; rotate_left; (first | omega | (simp <;> omega)))))).below hb1; have cB := Blk.cell KB; have fB := Blk.frozen KB; have lcB := Blk.lt KB; have cP := Blk.cell KP; have fP := Blk.frozen KP; have lcP := Blk.lt KP)
  go_upto_region 5 with (go_at_call 26; refine (BAD.out _ _).mono ?_; rintro e w2 ⟨rfl, hb2⟩; have z2 := hb2.size; (try simp at z2))
  go_wp2_with fail
  go_wp2_with (first
    | (go_at_call 30; refine (num_err 1 _ (HE.out _ (by repeat (first | with_reducible exact Below.refl _ _ | with_reducible refine Below.drew ?_ | with_reducible refine below_alloc ?_ _ | (with_reducible refine below_set ?_ ?_ _; rotate_left; (first | omega | (simp <;> omega))) | with_reducible refine below_drewN ?_ _ | with_reducible refine below_tr ?_ (by with_reducible assumption) | (with_reducible refine Bx.below ?_ (by with_reducible assumption) ?_; rotate_left; (first | omega | (simp <;> omega))))))).mono ?_; rintro e w3 ⟨rfl, hb3⟩; have z3 := hb3.size; (try simp at z3))
    | (go_at_call 32; refine (sure_any _).mono ?_; rintro e w9 ⟨rfl, hb9⟩; have z9 := hb9.size; (try simp at z9)))
  go_ret
  exact ⟨rfl, (by repeat (first | with_reducible exact Below.refl _ _ | with_reducible refine Below.drew ?_ | with_reducible refine below_alloc ?_ _ | (with_reducible refine below_set ?_ ?_ _; rotate_left; (first | omega | (simp <;> omega))) | with_reducible refine below_drewN ?_ _ | with_reducible refine below_tr ?_ (by with_reducible assumption) | (with_reducible refine Bx.below ?_ (by with_reducible assumption) ?_; rotate_left; (first | omega | (simp <;> omega)))))⟩

theorem az_more (az : Int) (a0 : 0 ≤ az) (a1 : az ≤ 65535) : ∃ a2, IntKind.u16.wrap (az + 16384) = a2 ∧ 0 ≤ a2 ∧ a2 ≤ 65535 ∧ a2 * 65536 = (az * 65536 + 1073741824) % 4294967296 := by
  refine ⟨_, rfl, ?_⟩
  rw [IntKind.wrap_u16]
  omega
set_option maxHeartbeats 4000000 in
theorem quarter_good (R T far az tm : Int) (w : World) (hS : mayS R T = true) (h0 : 0 ≤ far) (h1 : far ≤ 1099511627776) (a0 : 0 ≤ az) (a1 : az ≤ 65535) :
    Calls Tryd.prog 8 #[.agg #[.int .i64 (R), .int .i64 (T)], .agg #[.int .i64 (far), .int .u16 az, .int .i64 (tm)]] w fun e w' => e = .returned (.bool true) ∧ Below w.heap.size w w' := by
  obtain ⟨a2, hw, b0, b1, ht⟩ := az_more az a0 a1
  have OF1 := fun w => pOf_yes R T far az tm w hS h0 h1 a0 a1
  have OF2 := fun w => pOf_yes R T far a2 tm w hS h0 h1 b0 b1
  obtain ⟨q1, q2, q3, q4, q5⟩ := quarter_all R T (az * 65536) far (by omega) (by omega)
  rw [ht, q1, q2, q3, q4, q5] at OF2
  have g1 := m30_bd far (sinT (az * 65536))
  have g2 := m30_bd far (cosT (az * 65536))
  have g5 := d30_bd (alongF R) (acrossF T far) (scF (az * 65536)) (-scF (az * 65536))
  obtain ⟨X, hX⟩ : ∃ X, X = pxF (az * 65536) far := ⟨_, rfl⟩
  obtain ⟨Y, hY⟩ : ∃ Y, Y = pyF (az * 65536) far := ⟨_, rfl⟩
  obtain ⟨XX, hXX⟩ : ∃ XX, XX = xxF R T (az * 65536) far := ⟨_, rfl⟩
  obtain ⟨YY, hYY⟩ : ∃ YY, YY = yyF R T (az * 65536) far := ⟨_, rfl⟩
  obtain ⟨XY, hXY⟩ : ∃ XY, XY = xyF R T (az * 65536) far := ⟨_, rfl⟩
  obtain ⟨o1, ho1⟩ : ∃ o, o = ofOver R T (az * 65536) far := ⟨_, rfl⟩
  obtain ⟨o2, ho2⟩ : ∃ o, o = ofOver R T ((az * 65536 + 1073741824) % 4294967296) far := ⟨_, rfl⟩
  rw [← hX, ← hY, ← hXX, ← hYY, ← hXY, ← ho1] at OF1
  rw [← hX, ← hY, ← hXX, ← hYY, ← hXY, ← ho2] at OF2
  have x0 : -4611686018427387903 ≤ X ∧ X ≤ 4611686018427387903 := by rw [hX]; exact g1
  have y0 : -4611686018427387903 ≤ Y ∧ Y ≤ 4611686018427387903 := by rw [hY]; exact g2
  have xy0 : -4611686018427387903 ≤ XY ∧ XY ≤ 4611686018427387903 := by rw [hXY]; exact g5
  clear hX hY hXX hYY hXY ho1 ho2 q1 q2 q3 q4 q5 ht g1 g2 g5
  have O1 := Lib.hid OF1
  have O2 := Lib.hid OF2
  clear OF1 OF2
  obtain ⟨x0, x1⟩ := x0
  obtain ⟨y0, y1⟩ := y0
  obtain ⟨xy0, xy1⟩ := xy0
  cases o1 <;> cases o2
  all_goals
    go_enter Tryd.func8, Tryd.ntmps8
    go_upto_region 2 with (go_at_call 26; refine (O1.out _).mono ?_; rintro e w1 ⟨rfl, hb1⟩; have z1 := hb1.size; (try simp at z1); have KB := (show Blk _ w.heap.size #[.int .i64 (R), .int .i64 (T)] from (by repeat (first | with_reducible assumption | with_reducible exact Blk.new _ _ _ | with_reducible exact Blk.new1 _ _ _ _ | with_reducible exact Blk.new2 _ _ _ _ _ | with_reducible exact Blk.new3 _ _ _ _ _ _ | with_reducible refine Blk.drew ?_ | with_reducible refine Blk.alloc ?_ _ | with_reducible refine Blk.drewN ?_ _ | with_reducible apply Blk.put5 | (with_reducible refine Blk.far ?_ ?_ _; rotate_left; (first | omega | (simp <;> omega))) | with_reducible refine Blk.below ?_ (by with_reducible assumption) | (with_reducible refine Blk.bx ?_ (by with_reducible assumption) ?_; rotate_left; (first | omega | (simp <;> omega)))))).below hb1; have KP := (show Blk _ (w.heap.size + 1) #[.int .i64 (far), .int .u16 az, .int .i64 (tm)] from (by repeat (first | with_reducible assumption | with_reducible exact Blk.new _ _ _ | with_reducible exact Blk.new1 _ _ _ _ | with_reducible exact Blk.new2 _ _ _ _ _ | with_reducible exact Blk.new3 _ _ _ _ _ _ | with_reducible refine Blk.drew ?_ | with_reducible refine Blk.alloc ?_ _ | with_reducible refine Blk.drewN ?_ _ | with_reducible apply Blk.put5 | (with_reducible refine Blk.far ?_ ?_ _; rotate_left; (first | omega | (simp <;> omega))) | with_reducible refine Blk.below ?_ (by with_reducible assumption) | (with_reducible refine Blk.bx ?_ (by with_reducible assumption) ?_; rotate_left; (first | omega | (simp <;> omega)))))).below hb1; have cB := Blk.cell KB; have fB := Blk.frozen KB; have lcB := Blk.lt KB; have cP := Blk.cell KP; have fP := Blk.frozen KP; have lcP := Blk.lt KP)
    go_upto_region 5 with (go_at_call 26; refine (O2.out _).mono ?_; rintro e w2 ⟨rfl, hb2⟩; have z2 := hb2.size; (try simp at z2); have KP2 := (show Blk _ (w.heap.size + 1) #[.int .i64 (far), .int .u16 az, .int .i64 (tm)] from (by repeat (first | with_reducible assumption | with_reducible exact Blk.new _ _ _ | with_reducible exact Blk.new1 _ _ _ _ | with_reducible exact Blk.new2 _ _ _ _ _ | with_reducible exact Blk.new3 _ _ _ _ _ _ | with_reducible refine Blk.drew ?_ | with_reducible refine Blk.alloc ?_ _ | with_reducible refine Blk.drewN ?_ _ | with_reducible apply Blk.put5 | (with_reducible refine Blk.far ?_ ?_ _; rotate_left; (first | omega | (simp <;> omega))) | with_reducible refine Blk.below ?_ (by with_reducible assumption) | (with_reducible refine Blk.bx ?_ (by with_reducible assumption) ?_; rotate_left; (first | omega | (simp <;> omega)))))).below hb2; have KS := (show Blk _ w1.heap.size #[.int .i64 (X), .int .i64 (Y), .int .i64 (XX), .int .i64 (YY), .int .i64 (XY)] from (by repeat (first | with_reducible assumption | with_reducible exact Blk.new _ _ _ | with_reducible exact Blk.new1 _ _ _ _ | with_reducible exact Blk.new2 _ _ _ _ _ | with_reducible exact Blk.new3 _ _ _ _ _ _ | with_reducible refine Blk.drew ?_ | with_reducible refine Blk.alloc ?_ _ | with_reducible refine Blk.drewN ?_ _ | with_reducible apply Blk.put5 | (with_reducible refine Blk.far ?_ ?_ _; rotate_left; (first | omega | (simp <;> omega))) | with_reducible refine Blk.below ?_ (by with_reducible assumption) | (with_reducible refine Blk.bx ?_ (by with_reducible assumption) ?_; rotate_left; (first | omega | (simp <;> omega)))))).below hb2; have cP2 := Blk.cell KP2; have fP2 := Blk.frozen KP2; have lcP2 := Blk.lt KP2; have cS := Blk.cell KS; have fS := Blk.frozen KS; have lcS := Blk.lt KS)
    go_wp2_with (go_at_call 32; refine (sure_any _).mono ?_; rintro e w9 ⟨rfl, hb9⟩; have z9 := hb9.size; (try simp at z9))
    go_ret
    exact ⟨rfl, (by repeat (first | with_reducible exact Below.refl _ _ | with_reducible refine Below.drew ?_ | with_reducible refine below_alloc ?_ _ | (with_reducible refine below_set ?_ ?_ _; rotate_left; (first | omega | (simp <;> omega))) | with_reducible refine below_drewN ?_ _ | with_reducible refine below_tr ?_ (by with_reducible assumption) | (with_reducible refine Bx.below ?_ (by with_reducible assumption) ?_; rotate_left; (first | omega | (simp <;> omega)))))⟩
theorem quarter_any (R T far az tm : Int) (w : World) (hE : EType w) (a0 : 0 ≤ az) (a1 : az ≤ 65535) :
    Calls Tryd.prog 8 #[.agg #[.int .i64 (R), .int .i64 (T)], .agg #[.int .i64 (far), .int .u16 az, .int .i64 (tm)]] w fun e w' => e = .returned (.bool true) ∧ Below w.heap.size w w' := by
  cases hS : mayS R T
  · exact quarter_bad R T far az tm w hE (Or.inl hS) a0 a1
  · by_cases h : 0 ≤ far ∧ far ≤ 1099511627776
    · exact quarter_good R T far az tm w hS h.1 h.2 a0 a1
    · exact quarter_bad R T far az tm w hE (Or.inr ⟨hS, by omega⟩) a0 a1
end Go.Proofs.YthopiolbnhjgnaaDoor
