/- The law of layer 10 on spreads, walked. -/
import Derived.Test.YthopiolbnhjgnaaDoorPolarL
import Derived.Test.YthopiolbnhjgnaaDoorPolarS
set_option linter.unusedSimpArgs false
set_option linter.unusedVariables false
set_option maxRecDepth 20000
namespace Go.Proofs.YthopiolbnhjgnaaDoor
open Go.RowKit



set_option maxHeartbeats 4000000 in
theorem spreads_bad (R T far az tm more : Int) (w : World) (hE : EType w) (h : mayS R T = false ∨ (mayS R T = true ∧ (far < 0 ∨ 1099511627776 < far))) :
    Calls Tryd.prog 7 #[.agg #[.int .i64 (R), .int .i64 (T)], .agg #[.int .i64 (far), .int .u16 az, .int .i64 (tm)], .int .i64 (more)] w fun e w' => e = .returned (.bool true) ∧ Below w.heap.size w w' := by
  have HE := Lib.hid (fun w' (hb : Below w.heap.size w w') => hE.below hb)
  have BAD := Lib.hid (fun (a : Int) (w : World) => show Calls Tryd.prog 26 #[.agg #[.int .i64 (R), .int .i64 (T)], .agg #[.int .i64 (far), .int .u16 a, .int .i64 (tm)]] w (fun e w' => e = .returned (.tuple #[.agg #[.int .i64 (0), .int .i64 (0), .int .i64 (0), .int .i64 (0), .int .i64 (0)], .bool false, (.iface 115 (.int .i64 1))]) ∧ Below w.heap.size w w') from by
    rcases h with h | ⟨h, h2⟩
    · exact pOf_bad R T far a tm w h
    · exact pOf_far R T far a tm w h h2)
  clear hE h
  go_enter Tryd.func7, Tryd.ntmps7
  go_upto_region 2 with (go_at_call 26; refine (BAD.out az _).mono ?_; rintro e w1 ⟨rfl, hb1⟩; have z1 := hb1.size; (try simp at z1))
  go_wp2_with (first
    | (go_at_call 30; refine (num_err 1 _ (HE.out _ (by repeat (first | with_reducible exact Below.refl _ _ | with_reducible refine Below.drew ?_ | with_reducible refine below_alloc ?_ _ | (with_reducible refine below_set ?_ ?_ _; rotate_left; (first | omega | (simp <;> omega))) | with_reducible refine below_drewN ?_ _ | with_reducible refine below_tr ?_ (by with_reducible assumption) | (with_reducible refine Bx.below ?_ (by with_reducible assumption) ?_; rotate_left; (first | omega | (simp <;> omega))))))).mono ?_; rintro e w3 ⟨rfl, hb3⟩; have z3 := hb3.size; (try simp at z3))
    | (go_at_call 32; refine (sure_any _).mono ?_; rintro e w9 ⟨rfl, hb9⟩; have z9 := hb9.size; (try simp at z9)))
  go_ret
  exact ⟨rfl, (by repeat (first | with_reducible exact Below.refl _ _ | with_reducible refine Below.drew ?_ | with_reducible refine below_alloc ?_ _ | (with_reducible refine below_set ?_ ?_ _; rotate_left; (first | omega | (simp <;> omega))) | with_reducible refine below_drewN ?_ _ | with_reducible refine below_tr ?_ (by with_reducible assumption) | (with_reducible refine Bx.below ?_ (by with_reducible assumption) ?_; rotate_left; (first | omega | (simp <;> omega)))))⟩
set_option maxHeartbeats 4000000 in
theorem spreads_over (R T far az tm more : Int) (w : World) (hS : mayS R T = true) (h0 : 0 ≤ far) (h1 : far ≤ 1099511627776) (a0 : 0 ≤ az) (a1 : az ≤ 65535) (ho : ofOver R T (az * 65536) far = true) :
    Calls Tryd.prog 7 #[.agg #[.int .i64 (R), .int .i64 (T)], .agg #[.int .i64 (far), .int .u16 az, .int .i64 (tm)], .int .i64 (more)] w fun e w' => e = .returned (.bool true) ∧ Below w.heap.size w w' := by
  have OF1 := Lib.hid (fun w => pOf_yes R T far az tm w hS h0 h1 a0 a1)
  rw [ho] at OF1
  clear ho hS
  go_enter Tryd.func7, Tryd.ntmps7
  go_upto_region 2 with (go_at_call 26; refine (OF1.out _).mono ?_; rintro e w1 ⟨rfl, hb1⟩; have z1 := hb1.size; (try simp at z1))
  go_wp2_with (go_at_call 32; refine (sure_any _).mono ?_; rintro e w9 ⟨rfl, hb9⟩; have z9 := hb9.size; (try simp at z9))
  go_ret
  exact ⟨rfl, (by repeat (first | with_reducible exact Below.refl _ _ | with_reducible refine Below.drew ?_ | with_reducible refine below_alloc ?_ _ | (with_reducible refine below_set ?_ ?_ _; rotate_left; (first | omega | (simp <;> omega))) | with_reducible refine below_drewN ?_ _ | with_reducible refine below_tr ?_ (by with_reducible assumption) | (with_reducible refine Bx.below ?_ (by with_reducible assumption) ?_; rotate_left; (first | omega | (simp <;> omega)))))⟩
set_option maxHeartbeats 8000000 in
theorem spreads_good (R T far az tm more : Int) (w : World) (hm : I64 more) (hS : mayS R T = true) (h0 : 0 ≤ far) (h1 : far ≤ 1099511627776) (a0 : 0 ≤ az) (a1 : az ≤ 65535) (ho : ofOver R T (az * 65536) far = false) :
    Calls Tryd.prog 7 #[.agg #[.int .i64 (R), .int .i64 (T)], .agg #[.int .i64 (far), .int .u16 az, .int .i64 (tm)], .int .i64 (more)] w fun e w' => e = .returned (.bool true) ∧ Below w.heap.size w w' := by
  obtain ⟨R0, R1, T0, T1⟩ := mayS_of hS
  obtain ⟨mm0, mm1⟩ := hm
  have OF1 := fun w => pOf_yes R T far az tm w hS h0 h1 a0 a1
  rw [ho] at OF1
  obtain ⟨x0, y0, u, l⟩ := spreads_law R T (az * 65536) far ho
  have A0 := along_nn R
  have B0 := across_nn T far
  have A1 : alongF R ≤ 4611686018427387903 := (m20_bd R R).2
  have B1 : acrossF T far ≤ 4611686018427387903 := (m20_bd _ _).2
  have X1 : xxF R T (az * 65536) far ≤ 4611686018427387903 := (d30_bd _ _ _ _).2
  have Y1 : yyF R T (az * 65536) far ≤ 4611686018427387903 := (d30_bd _ _ _ _).2
  have SP1 := Lib.hid (fun w => pSpread_yes R T far w hS h0 h1)
  have SP2 := Lib.hid (fun (n : Int) w (h : 0 ≤ n) (h' : n ≤ 1099511627776) => pSpread_yes R T n w hS h h')
  have MO := Lib.hid (fun (n : Int) (h : far ≤ n) => across_mono T far n (by omega) h0 h)
  obtain ⟨X, hX⟩ : ∃ X, X = pxF (az * 65536) far := ⟨_, rfl⟩
  obtain ⟨Y, hY⟩ : ∃ Y, Y = pyF (az * 65536) far := ⟨_, rfl⟩
  obtain ⟨XX, hXX⟩ : ∃ XX, XX = xxF R T (az * 65536) far := ⟨_, rfl⟩
  obtain ⟨YY, hYY⟩ : ∃ YY, YY = yyF R T (az * 65536) far := ⟨_, rfl⟩
  obtain ⟨XY, hXY⟩ : ∃ XY, XY = xyF R T (az * 65536) far := ⟨_, rfl⟩
  obtain ⟨A, hA⟩ : ∃ A, A = alongF R := ⟨_, rfl⟩
  obtain ⟨B, hB⟩ : ∃ B, B = acrossF T far := ⟨_, rfl⟩
  rw [← hX, ← hY, ← hXX, ← hYY, ← hXY] at OF1
  rw [← hA, ← hB] at u l SP1
  rw [← hA] at A0 A1 SP2
  rw [← hB] at B0 B1 MO
  rw [← hXX, ← hYY] at u l
  rw [← hXX] at x0 X1
  rw [← hYY] at y0 Y1
  have OF1 := Lib.hid OF1
  clear hX hY hXX hYY hXY hA hB ho hS
  by_cases ha : 1152921504606846976 < A
  · go_enter Tryd.func7, Tryd.ntmps7
    go_upto_region 2 with (go_at_call 26; refine (OF1.out _).mono ?_; rintro e w1 ⟨rfl, hb1⟩; have z1 := hb1.size; (try simp at z1); have KB := (show Blk _ w.heap.size #[.int .i64 (R), .int .i64 (T)] from (by repeat (first | with_reducible assumption | with_reducible exact Blk.new _ _ _ | with_reducible exact Blk.new1 _ _ _ _ | with_reducible exact Blk.new2 _ _ _ _ _ | with_reducible exact Blk.new3 _ _ _ _ _ _ | with_reducible refine Blk.drew ?_ | with_reducible refine Blk.alloc ?_ _ | with_reducible refine Blk.drewN ?_ _ | with_reducible apply Blk.put5 | (with_reducible refine Blk.far ?_ ?_ _; rotate_left; (first | omega | (simp <;> omega))) | with_reducible refine Blk.below ?_ (by with_reducible assumption) | (with_reducible refine Blk.bx ?_ (by with_reducible assumption) ?_; rotate_left; (first | omega | (simp <;> omega)))))).below hb1; have KP := (show Blk _ (w.heap.size + 1) #[.int .i64 (far), .int .u16 az, .int .i64 (tm)] from (by repeat (first | with_reducible assumption | with_reducible exact Blk.new _ _ _ | with_reducible exact Blk.new1 _ _ _ _ | with_reducible exact Blk.new2 _ _ _ _ _ | with_reducible exact Blk.new3 _ _ _ _ _ _ | with_reducible refine Blk.drew ?_ | with_reducible refine Blk.alloc ?_ _ | with_reducible refine Blk.drewN ?_ _ | with_reducible apply Blk.put5 | (with_reducible refine Blk.far ?_ ?_ _; rotate_left; (first | omega | (simp <;> omega))) | with_reducible refine Blk.below ?_ (by with_reducible assumption) | (with_reducible refine Blk.bx ?_ (by with_reducible assumption) ?_; rotate_left; (first | omega | (simp <;> omega)))))).below hb1; have KV := Blk.new w1 #[.int .i64 (X), .int .i64 (Y), .int .i64 (XX), .int .i64 (YY), .int .i64 (XY)] 51; have KB := Blk.alloc KB (.cells #[.int .i64 (X), .int .i64 (Y), .int .i64 (XX), .int .i64 (YY), .int .i64 (XY)] 51); have KP := Blk.alloc KP (.cells #[.int .i64 (X), .int .i64 (Y), .int .i64 (XX), .int .i64 (YY), .int .i64 (XY)] 51); have cB := Blk.cell KB; have fB := Blk.frozen KB; have lcB := Blk.lt KB; have cP := Blk.cell KP; have fP := Blk.frozen KP; have lcP := Blk.lt KP)
    go_upto_region 5 with (go_at_call 27; refine (SP1.out _).mono ?_; rintro e w2 ⟨rfl, hb2⟩; have z2 := hb2.size; (try simp at z2); have KB2 := KB.below hb2; have KP2 := KP.below hb2; have KV2 := KV.below hb2; have cB2 := Blk.cell KB2; have fB2 := Blk.frozen KB2; have lcB2 := Blk.lt KB2; have cP2 := Blk.cell KP2; have fP2 := Blk.frozen KP2; have lcP2 := Blk.lt KP2; have cV2 := Blk.cell KV2; have fV2 := Blk.frozen KV2; have lcV2 := Blk.lt KV2)
    go_wp2_with (go_at_call 32; refine (sure_any _).mono ?_; rintro e w9 ⟨rfl, hb9⟩; have z9 := hb9.size; (try simp at z9))
    go_ret
    exact ⟨rfl, (by repeat (first | with_reducible exact Below.refl _ _ | with_reducible refine Below.drew ?_ | with_reducible refine below_alloc ?_ _ | (with_reducible refine below_set ?_ ?_ _; rotate_left; (first | omega | (simp <;> omega))) | with_reducible refine below_drewN ?_ _ | with_reducible refine below_tr ?_ (by with_reducible assumption) | (with_reducible refine Bx.below ?_ (by with_reducible assumption) ?_; rotate_left; (first | omega | (simp <;> omega)))))⟩
  · by_cases hb : 1152921504606846976 < B
    · go_enter Tryd.func7, Tryd.ntmps7
      go_upto_region 2 with (go_at_call 26; refine (OF1.out _).mono ?_; rintro e w1 ⟨rfl, hb1⟩; have z1 := hb1.size; (try simp at z1); have KB := (show Blk _ w.heap.size #[.int .i64 (R), .int .i64 (T)] from (by repeat (first | with_reducible assumption | with_reducible exact Blk.new _ _ _ | with_reducible exact Blk.new1 _ _ _ _ | with_reducible exact Blk.new2 _ _ _ _ _ | with_reducible exact Blk.new3 _ _ _ _ _ _ | with_reducible refine Blk.drew ?_ | with_reducible refine Blk.alloc ?_ _ | with_reducible refine Blk.drewN ?_ _ | with_reducible apply Blk.put5 | (with_reducible refine Blk.far ?_ ?_ _; rotate_left; (first | omega | (simp <;> omega))) | with_reducible refine Blk.below ?_ (by with_reducible assumption) | (with_reducible refine Blk.bx ?_ (by with_reducible assumption) ?_; rotate_left; (first | omega | (simp <;> omega)))))).below hb1; have KP := (show Blk _ (w.heap.size + 1) #[.int .i64 (far), .int .u16 az, .int .i64 (tm)] from (by repeat (first | with_reducible assumption | with_reducible exact Blk.new _ _ _ | with_reducible exact Blk.new1 _ _ _ _ | with_reducible exact Blk.new2 _ _ _ _ _ | with_reducible exact Blk.new3 _ _ _ _ _ _ | with_reducible refine Blk.drew ?_ | with_reducible refine Blk.alloc ?_ _ | with_reducible refine Blk.drewN ?_ _ | with_reducible apply Blk.put5 | (with_reducible refine Blk.far ?_ ?_ _; rotate_left; (first | omega | (simp <;> omega))) | with_reducible refine Blk.below ?_ (by with_reducible assumption) | (with_reducible refine Blk.bx ?_ (by with_reducible assumption) ?_; rotate_left; (first | omega | (simp <;> omega)))))).below hb1; have KV := Blk.new w1 #[.int .i64 (X), .int .i64 (Y), .int .i64 (XX), .int .i64 (YY), .int .i64 (XY)] 51; have KB := Blk.alloc KB (.cells #[.int .i64 (X), .int .i64 (Y), .int .i64 (XX), .int .i64 (YY), .int .i64 (XY)] 51); have KP := Blk.alloc KP (.cells #[.int .i64 (X), .int .i64 (Y), .int .i64 (XX), .int .i64 (YY), .int .i64 (XY)] 51); have cB := Blk.cell KB; have fB := Blk.frozen KB; have lcB := Blk.lt KB; have cP := Blk.cell KP; have fP := Blk.frozen KP; have lcP := Blk.lt KP)
      go_upto_region 5 with (go_at_call 27; refine (SP1.out _).mono ?_; rintro e w2 ⟨rfl, hb2⟩; have z2 := hb2.size; (try simp at z2); have KB2 := KB.below hb2; have KP2 := KP.below hb2; have KV2 := KV.below hb2; have cB2 := Blk.cell KB2; have fB2 := Blk.frozen KB2; have lcB2 := Blk.lt KB2; have cP2 := Blk.cell KP2; have fP2 := Blk.frozen KP2; have lcP2 := Blk.lt KP2; have cV2 := Blk.cell KV2; have fV2 := Blk.frozen KV2; have lcV2 := Blk.lt KV2)
      go_wp2_with (go_at_call 32; refine (sure_any _).mono ?_; rintro e w9 ⟨rfl, hb9⟩; have z9 := hb9.size; (try simp at z9))
      go_ret
      exact ⟨rfl, (by repeat (first | with_reducible exact Below.refl _ _ | with_reducible refine Below.drew ?_ | with_reducible refine below_alloc ?_ _ | (with_reducible refine below_set ?_ ?_ _; rotate_left; (first | omega | (simp <;> omega))) | with_reducible refine below_drewN ?_ _ | with_reducible refine below_tr ?_ (by with_reducible assumption) | (with_reducible refine Bx.below ?_ (by with_reducible assumption) ?_; rotate_left; (first | omega | (simp <;> omega)))))⟩
    · by_cases hmore : 0 ≤ more ∧ more ≤ 1099511627776 - far
      · obtain ⟨m0, m1⟩ := hmore
        have mono := MO.out (far + more) (by omega)
        go_enter Tryd.func7, Tryd.ntmps7
        go_upto_region 2 with (go_at_call 26; refine (OF1.out _).mono ?_; rintro e w1 ⟨rfl, hb1⟩; have z1 := hb1.size; (try simp at z1); have KB := (show Blk _ w.heap.size #[.int .i64 (R), .int .i64 (T)] from (by repeat (first | with_reducible assumption | with_reducible exact Blk.new _ _ _ | with_reducible exact Blk.new1 _ _ _ _ | with_reducible exact Blk.new2 _ _ _ _ _ | with_reducible exact Blk.new3 _ _ _ _ _ _ | with_reducible refine Blk.drew ?_ | with_reducible refine Blk.alloc ?_ _ | with_reducible refine Blk.drewN ?_ _ | with_reducible apply Blk.put5 | (with_reducible refine Blk.far ?_ ?_ _; rotate_left; (first | omega | (simp <;> omega))) | with_reducible refine Blk.below ?_ (by with_reducible assumption) | (with_reducible refine Blk.bx ?_ (by with_reducible assumption) ?_; rotate_left; (first | omega | (simp <;> omega)))))).below hb1; have KP := (show Blk _ (w.heap.size + 1) #[.int .i64 (far), .int .u16 az, .int .i64 (tm)] from (by repeat (first | with_reducible assumption | with_reducible exact Blk.new _ _ _ | with_reducible exact Blk.new1 _ _ _ _ | with_reducible exact Blk.new2 _ _ _ _ _ | with_reducible exact Blk.new3 _ _ _ _ _ _ | with_reducible refine Blk.drew ?_ | with_reducible refine Blk.alloc ?_ _ | with_reducible refine Blk.drewN ?_ _ | with_reducible apply Blk.put5 | (with_reducible refine Blk.far ?_ ?_ _; rotate_left; (first | omega | (simp <;> omega))) | with_reducible refine Blk.below ?_ (by with_reducible assumption) | (with_reducible refine Blk.bx ?_ (by with_reducible assumption) ?_; rotate_left; (first | omega | (simp <;> omega)))))).below hb1; have KV := Blk.new w1 #[.int .i64 (X), .int .i64 (Y), .int .i64 (XX), .int .i64 (YY), .int .i64 (XY)] 51; have KB := Blk.alloc KB (.cells #[.int .i64 (X), .int .i64 (Y), .int .i64 (XX), .int .i64 (YY), .int .i64 (XY)] 51); have KP := Blk.alloc KP (.cells #[.int .i64 (X), .int .i64 (Y), .int .i64 (XX), .int .i64 (YY), .int .i64 (XY)] 51); have cB := Blk.cell KB; have fB := Blk.frozen KB; have lcB := Blk.lt KB; have cP := Blk.cell KP; have fP := Blk.frozen KP; have lcP := Blk.lt KP)
        go_upto_region 5 with (go_at_call 27; refine (SP1.out _).mono ?_; rintro e w2 ⟨rfl, hb2⟩; have z2 := hb2.size; (try simp at z2); have KB2 := KB.below hb2; have KP2 := KP.below hb2; have KV2 := KV.below hb2; have cB2 := Blk.cell KB2; have fB2 := Blk.frozen KB2; have lcB2 := Blk.lt KB2; have cP2 := Blk.cell KP2; have fP2 := Blk.frozen KP2; have lcP2 := Blk.lt KP2; have cV2 := Blk.cell KV2; have fV2 := Blk.frozen KV2; have lcV2 := Blk.lt KV2)
        go_wp2_with (first
          | (go_at_call 27; refine (SP2.out (far + more) _ (by omega) (by omega)).mono ?_; rintro e w5 ⟨rfl, hb5⟩; have z5 := hb5.size; (try simp at z5))
          | (go_at_call 32; refine (sure_any _).mono ?_; rintro e w9 ⟨rfl, hb9⟩; have z9 := hb9.size; (try simp at z9)))
        go_ret
        exact ⟨rfl, (by repeat (first | with_reducible exact Below.refl _ _ | with_reducible refine Below.drew ?_ | with_reducible refine below_alloc ?_ _ | (with_reducible refine below_set ?_ ?_ _; rotate_left; (first | omega | (simp <;> omega))) | with_reducible refine below_drewN ?_ _ | with_reducible refine below_tr ?_ (by with_reducible assumption) | (with_reducible refine Bx.below ?_ (by with_reducible assumption) ?_; rotate_left; (first | omega | (simp <;> omega)))))⟩
      · have mono := MO.out far (Int.le_refl _)
        by_cases hneg : more < 0
        all_goals
          go_enter Tryd.func7, Tryd.ntmps7
          go_upto_region 2 with (go_at_call 26; refine (OF1.out _).mono ?_; rintro e w1 ⟨rfl, hb1⟩; have z1 := hb1.size; (try simp at z1); have KB := (show Blk _ w.heap.size #[.int .i64 (R), .int .i64 (T)] from (by repeat (first | with_reducible assumption | with_reducible exact Blk.new _ _ _ | with_reducible exact Blk.new1 _ _ _ _ | with_reducible exact Blk.new2 _ _ _ _ _ | with_reducible exact Blk.new3 _ _ _ _ _ _ | with_reducible refine Blk.drew ?_ | with_reducible refine Blk.alloc ?_ _ | with_reducible refine Blk.drewN ?_ _ | with_reducible apply Blk.put5 | (with_reducible refine Blk.far ?_ ?_ _; rotate_left; (first | omega | (simp <;> omega))) | with_reducible refine Blk.below ?_ (by with_reducible assumption) | (with_reducible refine Blk.bx ?_ (by with_reducible assumption) ?_; rotate_left; (first | omega | (simp <;> omega)))))).below hb1; have KP := (show Blk _ (w.heap.size + 1) #[.int .i64 (far), .int .u16 az, .int .i64 (tm)] from (by repeat (first | with_reducible assumption | with_reducible exact Blk.new _ _ _ | with_reducible exact Blk.new1 _ _ _ _ | with_reducible exact Blk.new2 _ _ _ _ _ | with_reducible exact Blk.new3 _ _ _ _ _ _ | with_reducible refine Blk.drew ?_ | with_reducible refine Blk.alloc ?_ _ | with_reducible refine Blk.drewN ?_ _ | with_reducible apply Blk.put5 | (with_reducible refine Blk.far ?_ ?_ _; rotate_left; (first | omega | (simp <;> omega))) | with_reducible refine Blk.below ?_ (by with_reducible assumption) | (with_reducible refine Blk.bx ?_ (by with_reducible assumption) ?_; rotate_left; (first | omega | (simp <;> omega)))))).below hb1; have KV := Blk.new w1 #[.int .i64 (X), .int .i64 (Y), .int .i64 (XX), .int .i64 (YY), .int .i64 (XY)] 51; have KB := Blk.alloc KB (.cells #[.int .i64 (X), .int .i64 (Y), .int .i64 (XX), .int .i64 (YY), .int .i64 (XY)] 51); have KP := Blk.alloc KP (.cells #[.int .i64 (X), .int .i64 (Y), .int .i64 (XX), .int .i64 (YY), .int .i64 (XY)] 51); have cB := Blk.cell KB; have fB := Blk.frozen KB; have lcB := Blk.lt KB; have cP := Blk.cell KP; have fP := Blk.frozen KP; have lcP := Blk.lt KP)
          go_upto_region 5 with (go_at_call 27; refine (SP1.out _).mono ?_; rintro e w2 ⟨rfl, hb2⟩; have z2 := hb2.size; (try simp at z2); have KB2 := KB.below hb2; have KP2 := KP.below hb2; have KV2 := KV.below hb2; have cB2 := Blk.cell KB2; have fB2 := Blk.frozen KB2; have lcB2 := Blk.lt KB2; have cP2 := Blk.cell KP2; have fP2 := Blk.frozen KP2; have lcP2 := Blk.lt KP2; have cV2 := Blk.cell KV2; have fV2 := Blk.frozen KV2; have lcV2 := Blk.lt KV2)
          go_wp2_with (first
            | (go_at_call 27; refine (SP2.out far _ h0 h1).mono ?_; rintro e w5 ⟨rfl, hb5⟩; have z5 := hb5.size; (try simp at z5))
            | (go_at_call 32; refine (sure_any _).mono ?_; rintro e w9 ⟨rfl, hb9⟩; have z9 := hb9.size; (try simp at z9)))
          go_ret
          exact ⟨rfl, (by repeat (first | with_reducible exact Below.refl _ _ | with_reducible refine Below.drew ?_ | with_reducible refine below_alloc ?_ _ | (with_reducible refine below_set ?_ ?_ _; rotate_left; (first | omega | (simp <;> omega))) | with_reducible refine below_drewN ?_ _ | with_reducible refine below_tr ?_ (by with_reducible assumption) | (with_reducible refine Bx.below ?_ (by with_reducible assumption) ?_; rotate_left; (first | omega | (simp <;> omega)))))⟩
theorem spreads_any (R T far az tm more : Int) (w : World) (hE : EType w) (hm : I64 more) (a0 : 0 ≤ az) (a1 : az ≤ 65535) :
    Calls Tryd.prog 7 #[.agg #[.int .i64 (R), .int .i64 (T)], .agg #[.int .i64 (far), .int .u16 az, .int .i64 (tm)], .int .i64 (more)] w fun e w' => e = .returned (.bool true) ∧ Below w.heap.size w w' := by
  cases hS : mayS R T
  · exact spreads_bad R T far az tm more w hE (Or.inl hS)
  · by_cases h : 0 ≤ far ∧ far ≤ 1099511627776
    · cases ho : ofOver R T (az * 65536) far
      · exact spreads_good R T far az tm more w hm hS h.1 h.2 a0 a1 ho
      · exact spreads_over R T far az tm more w hS h.1 h.2 a0 a1 ho
    · exact spreads_bad R T far az tm more w hE (Or.inr ⟨hS, by omega⟩)
end Go.Proofs.YthopiolbnhjgnaaDoor
