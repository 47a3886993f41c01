/- Wide numbers of the reference: the product, walked. -/
import Derived.Test.YthopiolbnhjgnaaWsum
import Derived.Deep.OwnRows
set_option linter.unusedSimpArgs false
set_option linter.unusedVariables false
set_option maxRecDepth 20000
namespace Go.Proofs.Ythopiolbnhjgnaa
open Go.RowKit



theorem val_set : ∀ (l : List Int) (k : Nat) (h : k < l.length) (d : Int), val (l.set k d) = val l + 10 ^ k * (d - l[k])
  | [], k, h, _ => absurd h (by simp)
  | x :: r, 0, _, d => by simp [val]; omega
  | x :: r, k + 1, h, d => by
    have := val_set r k (by simpa using h) d
    simp only [List.set_cons_succ, val, this, List.getElem_cons_succ]
    rw [Int.pow_succ, Int.mul_add, Int.mul_comm (10 ^ k) 10, Int.mul_assoc]
    omega
theorem Digs.set {l : List Int} (h : Digs l) (k : Nat) (d : Int) (h0 : 0 ≤ d) (h1 : d ≤ 9) : Digs (l.set k d) := fun e he => by
  rcases List.mem_or_eq_of_mem_set he with h2 | rfl
  · exact h e h2
  · exact ⟨h0, h1⟩
def MulAt (xs ys : List Int) (i : Nat) (x : Int) (os : List Int) (j : Nat) (c : Int) : Prop :=
  os.length = xs.length + ys.length + 1 ∧ Digs os ∧ 0 ≤ c ∧ c ≤ 9 ∧ val os + 10 ^ (i + j) * c = val (xs.take i) * val ys + 10 ^ i * (x * val (ys.take j)) ∧ (∀ k, i + ys.length ≤ k → i + j ≤ k → ∀ h : k < os.length, os[k] = 0) ∧ (ys.length < j → c = 0)
theorem mul_arith (v p q c e o : Int) : v + p * ((o + c + e) % 10 - o) + p * 10 * ((o + c + e) / 10) = v + p * c + p * e := by
  have h := Int.emod_add_mul_ediv (o + c + e) 10
  have : p * ((o + c + e) % 10 - o) + p * 10 * ((o + c + e) / 10) = p * (c + e) := by
    rw [Int.mul_assoc, ← Int.mul_add]
    congr 1
    omega
  rw [Int.add_assoc, this, Int.mul_add, Int.add_assoc]
theorem MulAt.step {xs ys : List Int} {i : Nat} {x : Int} {os : List Int} {j : Nat} {c : Int} (h : MulAt xs ys i x os j c) (hi : i < xs.length) (hj : j ≤ ys.length) (e : Int) (e0 : 0 ≤ e) (e1 : e ≤ 81) (he : x * val (ys.take (j + 1)) = x * val (ys.take j) + 10 ^ j * e) (hz : j = ys.length → e = 0) (hk : i + j < os.length) :
    MulAt xs ys i x (os.set (i + j) ((os[i + j] + c + e) % 10)) (j + 1) ((os[i + j] + c + e) / 10) := by
  obtain ⟨h1, h2, h3, h4, h5, h6, h7⟩ := h
  obtain ⟨d0, d1⟩ := h2.at (i + j) hk
  refine ⟨by rw [List.length_set]; exact h1, h2.set _ _ (by omega) (by omega), by omega, by omega, ?_, ?_, ?_⟩
  · rw [val_set _ _ hk, ← Nat.add_assoc, Int.pow_succ, mul_arith _ _ 0, h5, he, Int.mul_add, ← Int.mul_assoc (10 ^ i) (10 ^ j) e, ← Int.pow_add, Int.add_assoc]
  · intro k k1 k2 hkl
    rw [List.getElem_set_ne (by omega)]
    exact h6 k k1 (by omega) (by rw [List.length_set] at hkl; exact hkl)
  · intro hj2
    have hje : j = ys.length := by omega
    have o0 := h6 (i + j) (by omega) (Nat.le_refl _) hk
    have := hz hje
    omega
theorem MulAt.first {xs ys : List Int} {i : Nat} {x : Int} {os : List Int} (hl : os.length = xs.length + ys.length + 1) (hd : Digs os) (hv : val os = val (xs.take i) * val ys) (hz : ∀ k, i + ys.length ≤ k → ∀ h : k < os.length, os[k] = 0) : MulAt xs ys i x os 0 0 :=
  ⟨hl, hd, Int.le_refl _, by omega, by simp [hv, val], fun k h1 _ => hz k h1, fun _ => rfl⟩
theorem MulAt.last {xs ys : List Int} {i : Nat} {os : List Int} {j : Nat} {c : Int} (hi : i < xs.length) (h : MulAt xs ys i xs[i] os j c) (hj : j = ys.length + 1) :
    os.length = xs.length + ys.length + 1 ∧ Digs os ∧ val os = val (xs.take (i + 1)) * val ys ∧ ∀ k, i + 1 + ys.length ≤ k → ∀ h : k < os.length, os[k] = 0 := by
  obtain ⟨h1, h2, h3, h4, h5, h6, h7⟩ := h
  have hc := h7 (by omega)
  refine ⟨h1, h2, ?_, fun k hk => h6 k (by omega) (by omega)⟩
  rw [hc, Int.mul_zero, Int.add_zero, vt_ge ys j (by omega)] at h5
  rw [h5, vt_succ xs i hi, Int.add_mul, Int.mul_assoc]
theorem val_rep : ∀ n : Nat, val (List.replicate n 0) = 0
  | 0 => rfl
  | n + 1 => by simp [List.replicate_succ, val, val_rep n]
def cells (os : List Int) : Array Value := (os.map (Value.int .i64)).toArray
theorem cells_at (os : List Int) (k : Nat) (h : k < os.length) : (cells os)[k]? = some (.int .i64 os[k]) := by simp [cells, h]
theorem cells_set (os : List Int) (k : Nat) (d : Int) : (cells os).setIfInBounds k (.int .i64 d) = cells (os.set k d) := by
  simp [cells, List.map_set]
theorem cells_made (n : Nat) : madeCells #[.int .i64 0] n = cells (List.replicate n 0) := by
  apply Array.ext
  · simp [madeCells, cells]
  · intro i h1 h2
    simp [madeCells, cells, Nat.mod_one]

set_option maxHeartbeats 800000 in
theorem wMul_core (xs ys : List Int) (b1 b2 s : Bool) (z : Int) (A B : Option Addr) (c d : Nat) (w : World) (ha : SlD w A c xs) (hb : SlD w B d ys) (hl : xs.length + ys.length ≤ 90000) (hs1 : (b1 != b2) = s)
    (hz : z.natAbs = (val xs * val ys).toNat) (hs : (s && decide ((val xs * val ys).toNat ≠ 0)) = decide (z < 0)) (hlz : (dg (val xs * val ys).toNat).length ≤ 1000000) :
    Calls Try.prog 11 #[.agg #[.bool b1, .slice A xs.length c], .agg #[.bool b2, .slice B ys.length d]] w (RetN z w) := by
  obtain ⟨i0, hi0, hz0, hz1, hz2⟩ := info_parts info_int
  obtain ⟨ha1, ha2, ha3, ha4⟩ := ha
  obtain ⟨hb1', hb2, hb3, hb4⟩ := hb
  have HA := Lib.hid ha3
  have HB := Lib.hid hb3
  have DA := Lib.hid ha4
  have DB := Lib.hid hb4
  have HZ := Lib.hid hz
  have hmk : ∀ w : World, (Instr.makeSlice 26 (.int .i64 ((xs.length : Int) + (ys.length : Int) + 1)) (.int .i64 ((xs.length : Int) + (ys.length : Int) + 1))).run Try.prog w = .ok (.slice (some ⟨w.heap.size, 0, none⟩) (xs.length + ys.length + 1) (xs.length + ys.length + 1)) (w.alloc (.cells (cells (List.replicate (xs.length + ys.length + 1) 0)) 3)) := fun w => by
    have h := run_make_row (P := Try.prog) 26 3 i0 (.int .i64 0) rfl hi0 hz0 hz1 rfl .i64 .i64 (xs.length + ys.length + 1) (by rw [hz2]; omega) (by omega) w
    rw [cells_made] at h
    exact h
  have NM := Lib.hid (fun A1 k1 w' => num_dg s A1 k1 (val xs * val ys).toNat z w' hz hs hlz)
  clear ha3 hb3 ha4 hb4 hz hs
  go_enter Try.func11, Try.ntmps11
  go_wp2
  go_loopw [6, 7, 8, 9] (fun iv _ _ _ wr => ∃ (i : Nat) (os : List Int), iv = .int .i64 (i) ∧ i ≤ xs.length ∧ os.length = xs.length + ys.length + 1 ∧ Digs os ∧ val os = val (xs.take i) * val ys ∧ (∀ k, i + ys.length ≤ k → ∀ h : k < os.length, os[k] = 0) ∧ Blk wr w.heap.size #[.bool b1, .slice A xs.length c] ∧ Blk wr (w.heap.size + 1) #[.bool b2, .slice B ys.length d] ∧ (∃ u, Blk wr (w.heap.size + 1 + 1) #[.bool u, .slice none 0 0]) ∧ Blk wr (w.heap.size + 1 + 1 + 1) (cells os) ∧ Below w.heap.size w wr) (fun iv _ _ _ _ => xs.length + 1 - (intOf iv).toNat)
  case atStart =>
    refine ⟨0, List.replicate (xs.length + ys.length + 1) 0, rfl, Nat.zero_le _, by simp, ?_, ?_, ?_, (by repeat (first | with_reducible assumption | with_reducible exact Blk.new _ _ _ | with_reducible exact Blk.new1 _ _ _ _ | with_reducible exact Blk.new2 _ _ _ _ _ | with_reducible exact Blk.new3 _ _ _ _ _ _ | with_reducible refine Blk.drew ?_ | with_reducible refine Blk.alloc ?_ _ | with_reducible refine Blk.drewN ?_ _ | with_reducible apply Blk.put2 | with_reducible apply Blk.put3 | with_reducible apply Blk.put5 | (with_reducible refine Blk.far ?_ ?_ _; rotate_left; (first | omega | (simp <;> omega))) | with_reducible refine Blk.below ?_ (by with_reducible assumption))), (by repeat (first | with_reducible assumption | with_reducible exact Blk.new _ _ _ | with_reducible exact Blk.new1 _ _ _ _ | with_reducible exact Blk.new2 _ _ _ _ _ | with_reducible exact Blk.new3 _ _ _ _ _ _ | with_reducible refine Blk.drew ?_ | with_reducible refine Blk.alloc ?_ _ | with_reducible refine Blk.drewN ?_ _ | with_reducible apply Blk.put2 | with_reducible apply Blk.put3 | with_reducible apply Blk.put5 | (with_reducible refine Blk.far ?_ ?_ _; rotate_left; (first | omega | (simp <;> omega))) | with_reducible refine Blk.below ?_ (by with_reducible assumption))), ⟨false, (by repeat (first | with_reducible assumption | with_reducible exact Blk.new _ _ _ | with_reducible exact Blk.new1 _ _ _ _ | with_reducible exact Blk.new2 _ _ _ _ _ | with_reducible exact Blk.new3 _ _ _ _ _ _ | with_reducible refine Blk.drew ?_ | with_reducible refine Blk.alloc ?_ _ | with_reducible refine Blk.drewN ?_ _ | with_reducible apply Blk.put2 | with_reducible apply Blk.put3 | with_reducible apply Blk.put5 | (with_reducible refine Blk.far ?_ ?_ _; rotate_left; (first | omega | (simp <;> omega))) | with_reducible refine Blk.below ?_ (by with_reducible assumption)))⟩, ?_, (by repeat (first | with_reducible exact Below.refl _ _ | with_reducible refine Below.drew ?_ | with_reducible refine below_alloc ?_ _ | (with_reducible refine below_set ?_ ?_ _; rotate_left; (first | omega | (simp <;> omega))) | with_reducible refine below_drewN ?_ _ | with_reducible refine below_tr ?_ (by with_reducible assumption)))⟩
    · intro e he
      rw [List.mem_replicate] at he
      omega
    · rw [val_rep]; simp [val]
    · intro k _ h
      simp
    · exact (by repeat (first | with_reducible assumption | with_reducible exact Blk.new _ _ _ | with_reducible exact Blk.new1 _ _ _ _ | with_reducible exact Blk.new2 _ _ _ _ _ | with_reducible exact Blk.new3 _ _ _ _ _ _ | with_reducible refine Blk.drew ?_ | with_reducible refine Blk.alloc ?_ _ | with_reducible refine Blk.drewN ?_ _ | with_reducible apply Blk.put2 | with_reducible apply Blk.put3 | with_reducible apply Blk.put5 | (with_reducible refine Blk.far ?_ ?_ _; rotate_left; (first | omega | (simp <;> omega))) | with_reducible refine Blk.below ?_ (by with_reducible assumption)))
  case round =>
    obtain ⟨i, os, rfl, hi, hol, hod, hov, hoz, KX, KY, ⟨u, KR⟩, KO, hbw⟩ := hrel
    have z1 := hbw.size
    (try simp at z1)
    have cx := Blk.cell KX; have fx := Blk.frozen KX; have lcx := Blk.lt KX
    have cy := Blk.cell KY; have fy := Blk.frozen KY; have lcy := Blk.lt KY
    have cr := Blk.cell KR; have fr := Blk.frozen KR; have lcr := Blk.lt KR
    by_cases hx : i < xs.length
    · have MF := MulAt.first (x := xs[i]) hol hod hov hoz
      clear hol hod hov hoz
      obtain ⟨wo, hwo⟩ : ∃ wo : World, wo = wr := ⟨_, rfl⟩
      go_wp2
      go_loopw [7, 8, 9] (fun cv jv _ wr => ∃ (j : Nat) (os : List Int) (cc : Int), jv = .int .i64 (j) ∧ cv = .int .i64 (cc) ∧ j ≤ ys.length + 1 ∧ MulAt xs ys i xs[i] os j cc ∧ Blk wr w.heap.size #[.bool b1, .slice A xs.length c] ∧ Blk wr (w.heap.size + 1) #[.bool b2, .slice B ys.length d] ∧ (∃ u, Blk wr (w.heap.size + 1 + 1) #[.bool u, .slice none 0 0]) ∧ Blk wr (w.heap.size + 1 + 1 + 1) (cells os) ∧ Below w.heap.size w wr) (fun _ jv _ _ => ys.length + 2 - (intOf jv).toNat)
      case atStart => exact ⟨0, os, 0, rfl, rfl, Nat.zero_le _, MF, (by repeat (first | with_reducible assumption | with_reducible exact Blk.new _ _ _ | with_reducible exact Blk.new1 _ _ _ _ | with_reducible exact Blk.new2 _ _ _ _ _ | with_reducible exact Blk.new3 _ _ _ _ _ _ | with_reducible refine Blk.drew ?_ | with_reducible refine Blk.alloc ?_ _ | with_reducible refine Blk.drewN ?_ _ | with_reducible apply Blk.put2 | with_reducible apply Blk.put3 | with_reducible apply Blk.put5 | (with_reducible refine Blk.far ?_ ?_ _; rotate_left; (first | omega | (simp <;> omega))) | with_reducible refine Blk.below ?_ (by with_reducible assumption))), (by repeat (first | with_reducible assumption | with_reducible exact Blk.new _ _ _ | with_reducible exact Blk.new1 _ _ _ _ | with_reducible exact Blk.new2 _ _ _ _ _ | with_reducible exact Blk.new3 _ _ _ _ _ _ | with_reducible refine Blk.drew ?_ | with_reducible refine Blk.alloc ?_ _ | with_reducible refine Blk.drewN ?_ _ | with_reducible apply Blk.put2 | with_reducible apply Blk.put3 | with_reducible apply Blk.put5 | (with_reducible refine Blk.far ?_ ?_ _; rotate_left; (first | omega | (simp <;> omega))) | with_reducible refine Blk.below ?_ (by with_reducible assumption))), ⟨u, (by repeat (first | with_reducible assumption | with_reducible exact Blk.new _ _ _ | with_reducible exact Blk.new1 _ _ _ _ | with_reducible exact Blk.new2 _ _ _ _ _ | with_reducible exact Blk.new3 _ _ _ _ _ _ | with_reducible refine Blk.drew ?_ | with_reducible refine Blk.alloc ?_ _ | with_reducible refine Blk.drewN ?_ _ | with_reducible apply Blk.put2 | with_reducible apply Blk.put3 | with_reducible apply Blk.put5 | (with_reducible refine Blk.far ?_ ?_ _; rotate_left; (first | omega | (simp <;> omega))) | with_reducible refine Blk.below ?_ (by with_reducible assumption)))⟩, (by repeat (first | with_reducible assumption | with_reducible exact Blk.new _ _ _ | with_reducible exact Blk.new1 _ _ _ _ | with_reducible exact Blk.new2 _ _ _ _ _ | with_reducible exact Blk.new3 _ _ _ _ _ _ | with_reducible refine Blk.drew ?_ | with_reducible refine Blk.alloc ?_ _ | with_reducible refine Blk.drewN ?_ _ | with_reducible apply Blk.put2 | with_reducible apply Blk.put3 | with_reducible apply Blk.put5 | (with_reducible refine Blk.far ?_ ?_ _; rotate_left; (first | omega | (simp <;> omega))) | with_reducible refine Blk.below ?_ (by with_reducible assumption))), (by repeat (first | with_reducible exact Below.refl _ _ | with_reducible refine Below.drew ?_ | with_reducible refine below_alloc ?_ _ | (with_reducible refine below_set ?_ ?_ _; rotate_left; (first | omega | (simp <;> omega))) | with_reducible refine below_drewN ?_ _ | with_reducible refine below_tr ?_ (by with_reducible assumption)))⟩
      case round =>
        obtain ⟨j, os, cc, rfl, rfl, hj, MA, KX, KY, ⟨u, KR⟩, KO, hbw⟩ := hrel
        have z1 := hbw.size
        (try simp at z1)
        have c0 := MA.2.2.1
        have c9 := MA.2.2.2.1
        have hol : os.length = xs.length + ys.length + 1 := MA.1
        have cx := Blk.cell KX; have fx := Blk.frozen KX; have lcx := Blk.lt KX
        have cy := Blk.cell KY; have fy := Blk.frozen KY; have lcy := Blk.lt KY
        have cr := Blk.cell KR; have fr := Blk.frozen KR; have lcr := Blk.lt KR
        by_cases hy : j ≤ ys.length
        · have hk : i + j < os.length := by omega
          have d1 := DA.out.at i hx
          obtain ⟨d10, d11⟩ := d1
          have d3 := MA.2.1.at (i + j) hk
          obtain ⟨d30, d31⟩ := d3
          have co := (KO.cell (i + j)).trans (cells_at os (i + j) hk)
          have fo := KO.frozen (i + j)
          have lo := KO.lt
          have e1 : ((i : Int) + (j : Int)).toNat = i + j := by omega
          obtain ⟨ba, oa, rfl, k1⟩ := HA.out i hx
          have k1 := (hbw.cell (World.block_lt_of_cell? w _ k1)).trans k1
          by_cases hy2 : j < ys.length
          · have d2 := DB.out.at j hy2
            obtain ⟨d20, d21⟩ := d2
            have hm0 : 0 ≤ xs[i] * ys[j] := Int.mul_nonneg d10 d20
            have hm1 : xs[i] * ys[j] ≤ 81 := Int.le_trans (Int.mul_le_mul d11 d21 d20 (by omega)) (by omega)
            obtain ⟨bb, ob, rfl, k2⟩ := HB.out j hy2
            have k2 := (hbw.cell (World.block_lt_of_cell? w _ k2)).trans k2
            have S := Lib.hid (MA.step hx hy (xs[i] * ys[j]) hm0 hm1 (by rw [vt_succ ys j hy2, Int.mul_add, ← Int.mul_assoc, ← Int.mul_assoc, Int.mul_comm xs[i] (10 ^ j)]) (by omega) hk)
            clear MA
            go_wp2
            go_quiet (fail)
            go_wp2
            go_roundw
            case rel => exact ⟨j + 1, _, _, by go_num, rfl, by omega, S.out, (by repeat (first | with_reducible assumption | with_reducible exact Blk.new _ _ _ | with_reducible exact Blk.new1 _ _ _ _ | with_reducible exact Blk.new2 _ _ _ _ _ | with_reducible exact Blk.new3 _ _ _ _ _ _ | with_reducible refine Blk.drew ?_ | with_reducible refine Blk.alloc ?_ _ | with_reducible refine Blk.drewN ?_ _ | with_reducible apply Blk.put2 | with_reducible apply Blk.put3 | with_reducible apply Blk.put5 | (with_reducible refine Blk.far ?_ ?_ _; rotate_left; (first | omega | (simp <;> omega))) | with_reducible refine Blk.below ?_ (by with_reducible assumption))), (by repeat (first | with_reducible assumption | with_reducible exact Blk.new _ _ _ | with_reducible exact Blk.new1 _ _ _ _ | with_reducible exact Blk.new2 _ _ _ _ _ | with_reducible exact Blk.new3 _ _ _ _ _ _ | with_reducible refine Blk.drew ?_ | with_reducible refine Blk.alloc ?_ _ | with_reducible refine Blk.drewN ?_ _ | with_reducible apply Blk.put2 | with_reducible apply Blk.put3 | with_reducible apply Blk.put5 | (with_reducible refine Blk.far ?_ ?_ _; rotate_left; (first | omega | (simp <;> omega))) | with_reducible refine Blk.below ?_ (by with_reducible assumption))), ⟨u, (by repeat (first | with_reducible assumption | with_reducible exact Blk.new _ _ _ | with_reducible exact Blk.new1 _ _ _ _ | with_reducible exact Blk.new2 _ _ _ _ _ | with_reducible exact Blk.new3 _ _ _ _ _ _ | with_reducible refine Blk.drew ?_ | with_reducible refine Blk.alloc ?_ _ | with_reducible refine Blk.drewN ?_ _ | with_reducible apply Blk.put2 | with_reducible apply Blk.put3 | with_reducible apply Blk.put5 | (with_reducible refine Blk.far ?_ ?_ _; rotate_left; (first | omega | (simp <;> omega))) | with_reducible refine Blk.below ?_ (by with_reducible assumption)))⟩, Blk.put (Blk.drewN KO _) _ _ (cells_set _ _ _), (by repeat (first | with_reducible exact Below.refl _ _ | with_reducible refine Below.drew ?_ | with_reducible refine below_alloc ?_ _ | (with_reducible refine below_set ?_ ?_ _; rotate_left; (first | omega | (simp <;> omega))) | with_reducible refine below_drewN ?_ _ | with_reducible refine below_tr ?_ (by with_reducible assumption)))⟩
            case measure => simp [intOf]; omega
          · have S0 := MA.step hx hy 0 (by omega) (by omega) (by rw [vt_ge ys j (by omega), vt_ge ys (j + 1) (by omega), Int.mul_zero, Int.add_zero]) (fun _ => rfl) hk
            rw [Int.add_zero] at S0
            have S := Lib.hid S0
            clear MA S0
            go_wp2
            go_roundw
            case rel => exact ⟨j + 1, _, _, by go_num, rfl, by omega, S.out, (by repeat (first | with_reducible assumption | with_reducible exact Blk.new _ _ _ | with_reducible exact Blk.new1 _ _ _ _ | with_reducible exact Blk.new2 _ _ _ _ _ | with_reducible exact Blk.new3 _ _ _ _ _ _ | with_reducible refine Blk.drew ?_ | with_reducible refine Blk.alloc ?_ _ | with_reducible refine Blk.drewN ?_ _ | with_reducible apply Blk.put2 | with_reducible apply Blk.put3 | with_reducible apply Blk.put5 | (with_reducible refine Blk.far ?_ ?_ _; rotate_left; (first | omega | (simp <;> omega))) | with_reducible refine Blk.below ?_ (by with_reducible assumption))), (by repeat (first | with_reducible assumption | with_reducible exact Blk.new _ _ _ | with_reducible exact Blk.new1 _ _ _ _ | with_reducible exact Blk.new2 _ _ _ _ _ | with_reducible exact Blk.new3 _ _ _ _ _ _ | with_reducible refine Blk.drew ?_ | with_reducible refine Blk.alloc ?_ _ | with_reducible refine Blk.drewN ?_ _ | with_reducible apply Blk.put2 | with_reducible apply Blk.put3 | with_reducible apply Blk.put5 | (with_reducible refine Blk.far ?_ ?_ _; rotate_left; (first | omega | (simp <;> omega))) | with_reducible refine Blk.below ?_ (by with_reducible assumption))), ⟨u, (by repeat (first | with_reducible assumption | with_reducible exact Blk.new _ _ _ | with_reducible exact Blk.new1 _ _ _ _ | with_reducible exact Blk.new2 _ _ _ _ _ | with_reducible exact Blk.new3 _ _ _ _ _ _ | with_reducible refine Blk.drew ?_ | with_reducible refine Blk.alloc ?_ _ | with_reducible refine Blk.drewN ?_ _ | with_reducible apply Blk.put2 | with_reducible apply Blk.put3 | with_reducible apply Blk.put5 | (with_reducible refine Blk.far ?_ ?_ _; rotate_left; (first | omega | (simp <;> omega))) | with_reducible refine Blk.below ?_ (by with_reducible assumption)))⟩, Blk.put KO _ _ (cells_set _ _ _), (by repeat (first | with_reducible exact Below.refl _ _ | with_reducible refine Below.drew ?_ | with_reducible refine below_alloc ?_ _ | (with_reducible refine below_set ?_ ?_ _; rotate_left; (first | omega | (simp <;> omega))) | with_reducible refine below_drewN ?_ _ | with_reducible refine below_tr ?_ (by with_reducible assumption)))⟩
            case measure => simp [intOf]; omega
        · obtain ⟨L1, L2, L3, L4⟩ := MA.last hx (by omega)
          have L := Lib.hid (And.intro L1 (And.intro L2 (And.intro L3 L4)))
          clear MA L1 L2 L3 L4
          go_wp2
          go_roundw
          case rel => exact ⟨i + 1, os, by go_num, by omega, L.out.1, L.out.2.1, L.out.2.2.1, L.out.2.2.2, (by repeat (first | with_reducible assumption | with_reducible exact Blk.new _ _ _ | with_reducible exact Blk.new1 _ _ _ _ | with_reducible exact Blk.new2 _ _ _ _ _ | with_reducible exact Blk.new3 _ _ _ _ _ _ | with_reducible refine Blk.drew ?_ | with_reducible refine Blk.alloc ?_ _ | with_reducible refine Blk.drewN ?_ _ | with_reducible apply Blk.put2 | with_reducible apply Blk.put3 | with_reducible apply Blk.put5 | (with_reducible refine Blk.far ?_ ?_ _; rotate_left; (first | omega | (simp <;> omega))) | with_reducible refine Blk.below ?_ (by with_reducible assumption))), (by repeat (first | with_reducible assumption | with_reducible exact Blk.new _ _ _ | with_reducible exact Blk.new1 _ _ _ _ | with_reducible exact Blk.new2 _ _ _ _ _ | with_reducible exact Blk.new3 _ _ _ _ _ _ | with_reducible refine Blk.drew ?_ | with_reducible refine Blk.alloc ?_ _ | with_reducible refine Blk.drewN ?_ _ | with_reducible apply Blk.put2 | with_reducible apply Blk.put3 | with_reducible apply Blk.put5 | (with_reducible refine Blk.far ?_ ?_ _; rotate_left; (first | omega | (simp <;> omega))) | with_reducible refine Blk.below ?_ (by with_reducible assumption))), ⟨u, (by repeat (first | with_reducible assumption | with_reducible exact Blk.new _ _ _ | with_reducible exact Blk.new1 _ _ _ _ | with_reducible exact Blk.new2 _ _ _ _ _ | with_reducible exact Blk.new3 _ _ _ _ _ _ | with_reducible refine Blk.drew ?_ | with_reducible refine Blk.alloc ?_ _ | with_reducible refine Blk.drewN ?_ _ | with_reducible apply Blk.put2 | with_reducible apply Blk.put3 | with_reducible apply Blk.put5 | (with_reducible refine Blk.far ?_ ?_ _; rotate_left; (first | omega | (simp <;> omega))) | with_reducible refine Blk.below ?_ (by with_reducible assumption)))⟩, (by repeat (first | with_reducible assumption | with_reducible exact Blk.new _ _ _ | with_reducible exact Blk.new1 _ _ _ _ | with_reducible exact Blk.new2 _ _ _ _ _ | with_reducible exact Blk.new3 _ _ _ _ _ _ | with_reducible refine Blk.drew ?_ | with_reducible refine Blk.alloc ?_ _ | with_reducible refine Blk.drewN ?_ _ | with_reducible apply Blk.put2 | with_reducible apply Blk.put3 | with_reducible apply Blk.put5 | (with_reducible refine Blk.far ?_ ?_ _; rotate_left; (first | omega | (simp <;> omega))) | with_reducible refine Blk.below ?_ (by with_reducible assumption))), (by repeat (first | with_reducible exact Below.refl _ _ | with_reducible refine Below.drew ?_ | with_reducible refine below_alloc ?_ _ | (with_reducible refine below_set ?_ ?_ _; rotate_left; (first | omega | (simp <;> omega))) | with_reducible refine below_drewN ?_ _ | with_reducible refine below_tr ?_ (by with_reducible assumption)))⟩
          case measure => simp [intOf]; omega
    · have F := Lib.hid (show val os = val xs * val ys by rw [hov, vt_ge xs i (by omega)])
      have TR := Lib.hid (fun w' (hw : Blk w' (w.heap.size + 1 + 1 + 1) (cells os)) => wtrim_n (some ⟨(w.heap.size + 1 + 1 + 1), 0, none⟩) (xs.length + ys.length + 1) (xs.length + ys.length + 1) os w' hol (by omega) (by omega) (Dg.of_blk hw os (fun i h => cells_at os i h)) hod)
      rw [F.out] at TR
      have HOD := Lib.hid hod
      have hq1 : (b1 == b2) = !s := by rw [← hs1]; cases b1 <;> cases b2 <;> rfl
      have hq2 : decide (b1 = b2) = !s := by rw [← hs1]; cases b1 <;> cases b2 <;> rfl
      clear hod hoz hov
      go_wp2
      go_region_held3 (fun w' => w'.cell? ⟨w.heap.size, 0, none⟩ = some (.bool b1) ∧ w'.cell? ⟨w.heap.size, 1, none⟩ = some (.slice A xs.length c) ∧ w'.cell? ⟨w.heap.size + 1, 0, none⟩ = some (.bool b2) ∧ w'.cell? ⟨w.heap.size + 1, 1, none⟩ = some (.slice B ys.length d)) (first | (go_keep; done) | ((try dsimp only); (repeat' apply And.intro) <;> (first | (go_keep; done) | (simp [cx2, cy2]; done) | (simp [cx, cy]; done) | exact (Blk.cell (cs := #[.bool b1, .slice A xs.length c]) (by repeat (first | with_reducible assumption | with_reducible exact Blk.new _ _ _ | with_reducible exact Blk.new1 _ _ _ _ | with_reducible exact Blk.new2 _ _ _ _ _ | with_reducible exact Blk.new3 _ _ _ _ _ _ | with_reducible refine Blk.drew ?_ | with_reducible refine Blk.alloc ?_ _ | with_reducible refine Blk.drewN ?_ _ | with_reducible apply Blk.put2 | with_reducible apply Blk.put3 | with_reducible apply Blk.put5 | (with_reducible refine Blk.far ?_ ?_ _; rotate_left; (first | omega | (simp <;> omega))) | with_reducible refine Blk.below ?_ (by with_reducible assumption))) 0).trans rfl | exact (Blk.cell (cs := #[.bool b1, .slice A xs.length c]) (by repeat (first | with_reducible assumption | with_reducible exact Blk.new _ _ _ | with_reducible exact Blk.new1 _ _ _ _ | with_reducible exact Blk.new2 _ _ _ _ _ | with_reducible exact Blk.new3 _ _ _ _ _ _ | with_reducible refine Blk.drew ?_ | with_reducible refine Blk.alloc ?_ _ | with_reducible refine Blk.drewN ?_ _ | with_reducible apply Blk.put2 | with_reducible apply Blk.put3 | with_reducible apply Blk.put5 | (with_reducible refine Blk.far ?_ ?_ _; rotate_left; (first | omega | (simp <;> omega))) | with_reducible refine Blk.below ?_ (by with_reducible assumption))) 1).trans rfl | exact (Blk.cell (cs := #[.bool b2, .slice B ys.length d]) (by repeat (first | with_reducible assumption | with_reducible exact Blk.new _ _ _ | with_reducible exact Blk.new1 _ _ _ _ | with_reducible exact Blk.new2 _ _ _ _ _ | with_reducible exact Blk.new3 _ _ _ _ _ _ | with_reducible refine Blk.drew ?_ | with_reducible refine Blk.alloc ?_ _ | with_reducible refine Blk.drewN ?_ _ | with_reducible apply Blk.put2 | with_reducible apply Blk.put3 | with_reducible apply Blk.put5 | (with_reducible refine Blk.far ?_ ?_ _; rotate_left; (first | omega | (simp <;> omega))) | with_reducible refine Blk.below ?_ (by with_reducible assumption))) 0).trans rfl | exact (Blk.cell (cs := #[.bool b2, .slice B ys.length d]) (by repeat (first | with_reducible assumption | with_reducible exact Blk.new _ _ _ | with_reducible exact Blk.new1 _ _ _ _ | with_reducible exact Blk.new2 _ _ _ _ _ | with_reducible exact Blk.new3 _ _ _ _ _ _ | with_reducible refine Blk.drew ?_ | with_reducible refine Blk.alloc ?_ _ | with_reducible refine Blk.drewN ?_ _ | with_reducible apply Blk.put2 | with_reducible apply Blk.put3 | with_reducible apply Blk.put5 | (with_reducible refine Blk.far ?_ ?_ _; rotate_left; (first | omega | (simp <;> omega))) | with_reducible refine Blk.below ?_ (by with_reducible assumption))) 1).trans rfl))) (first
        | (go_at_call 26; refine (TR.out _ (by repeat (first | with_reducible assumption | with_reducible exact Blk.new _ _ _ | with_reducible exact Blk.new1 _ _ _ _ | with_reducible exact Blk.new2 _ _ _ _ _ | with_reducible exact Blk.new3 _ _ _ _ _ _ | with_reducible refine Blk.drew ?_ | with_reducible refine Blk.alloc ?_ _ | with_reducible refine Blk.drewN ?_ _ | with_reducible apply Blk.put2 | with_reducible apply Blk.put3 | with_reducible apply Blk.put5 | (with_reducible refine Blk.far ?_ ?_ _; rotate_left; (first | omega | (simp <;> omega))) | with_reducible refine Blk.below ?_ (by with_reducible assumption)))).mono ?_; rintro e w1 ⟨rfl, rfl⟩)
        | (go_at_call 25; refine (NM.out _ _ _).mono ?_; rintro e w2 ⟨rfl, hb2⟩; have z2 := hb2.size; (try simp at z2); have KX2 := (show Blk _ w.heap.size #[.bool b1, .slice A xs.length c] from (by repeat (first | with_reducible assumption | with_reducible exact Blk.new _ _ _ | with_reducible exact Blk.new1 _ _ _ _ | with_reducible exact Blk.new2 _ _ _ _ _ | with_reducible exact Blk.new3 _ _ _ _ _ _ | with_reducible refine Blk.drew ?_ | with_reducible refine Blk.alloc ?_ _ | with_reducible refine Blk.drewN ?_ _ | with_reducible apply Blk.put2 | with_reducible apply Blk.put3 | with_reducible apply Blk.put5 | (with_reducible refine Blk.far ?_ ?_ _; rotate_left; (first | omega | (simp <;> omega))) | with_reducible refine Blk.below ?_ (by with_reducible assumption)))).below hb2; have KY2 := (show Blk _ (w.heap.size + 1) #[.bool b2, .slice B ys.length d] from (by repeat (first | with_reducible assumption | with_reducible exact Blk.new _ _ _ | with_reducible exact Blk.new1 _ _ _ _ | with_reducible exact Blk.new2 _ _ _ _ _ | with_reducible exact Blk.new3 _ _ _ _ _ _ | with_reducible refine Blk.drew ?_ | with_reducible refine Blk.alloc ?_ _ | with_reducible refine Blk.drewN ?_ _ | with_reducible apply Blk.put2 | with_reducible apply Blk.put3 | with_reducible apply Blk.put5 | (with_reducible refine Blk.far ?_ ?_ _; rotate_left; (first | omega | (simp <;> omega))) | with_reducible refine Blk.below ?_ (by with_reducible assumption)))).below hb2; have KR2 := (show Blk _ (w.heap.size + 1 + 1) #[.bool u, .slice none 0 0] from (by repeat (first | with_reducible assumption | with_reducible exact Blk.new _ _ _ | with_reducible exact Blk.new1 _ _ _ _ | with_reducible exact Blk.new2 _ _ _ _ _ | with_reducible exact Blk.new3 _ _ _ _ _ _ | with_reducible refine Blk.drew ?_ | with_reducible refine Blk.alloc ?_ _ | with_reducible refine Blk.drewN ?_ _ | with_reducible apply Blk.put2 | with_reducible apply Blk.put3 | with_reducible apply Blk.put5 | (with_reducible refine Blk.far ?_ ?_ _; rotate_left; (first | omega | (simp <;> omega))) | with_reducible refine Blk.below ?_ (by with_reducible assumption)))).below hb2; have cx2 := Blk.cell KX2; have fx2 := Blk.frozen KX2; have lcx2 := Blk.lt KX2; have cy2 := Blk.cell KY2; have fy2 := Blk.frozen KY2; have lcy2 := Blk.lt KY2; have cr2 := Blk.cell KR2; have fr2 := Blk.frozen KR2; have lcr2 := Blk.lt KR2; have KO2 := (show Blk _ (w.heap.size + 1 + 1 + 1) (cells os) from (by repeat (first | with_reducible assumption | with_reducible exact Blk.new _ _ _ | with_reducible exact Blk.new1 _ _ _ _ | with_reducible exact Blk.new2 _ _ _ _ _ | with_reducible exact Blk.new3 _ _ _ _ _ _ | with_reducible refine Blk.drew ?_ | with_reducible refine Blk.alloc ?_ _ | with_reducible refine Blk.drewN ?_ _ | with_reducible apply Blk.put2 | with_reducible apply Blk.put3 | with_reducible apply Blk.put5 | (with_reducible refine Blk.far ?_ ?_ _; rotate_left; (first | omega | (simp <;> omega))) | with_reducible refine Blk.below ?_ (by with_reducible assumption)))).below hb2))
      all_goals go_wp2
      all_goals exact bodyPost_ret (v := .agg #[.bool (decide (z < 0)), .slice ((some ⟨(w.heap.size + 1 + 1 + 1), 0, none⟩)) (dg (z).natAbs).length ((xs.length + ys.length + 1))]) (by simp [results, Try.results11, go_sem, cr2]) rfl ⟨some ⟨(w.heap.size + 1 + 1 + 1), 0, none⟩, xs.length + ys.length + 1, rfl, by rw [HZ.out, ← F.out]; exact Nat.le_trans (dg_len_of _ HOD.out) (by omega), by rw [HZ.out, ← F.out]; exact Dg.putN ((Dg.of_blk KO2 os (fun i h => cells_at os i h)).trim HOD.out) KR2 _ _, (by repeat (first | with_reducible exact Below.refl _ _ | with_reducible refine Below.drew ?_ | with_reducible refine below_alloc ?_ _ | (with_reducible refine below_set ?_ ?_ _; rotate_left; (first | omega | (simp <;> omega))) | with_reducible refine below_drewN ?_ _ | with_reducible refine below_tr ?_ (by with_reducible assumption)))⟩

theorem wMul_any (x y : Int) (A B : Option Addr) (c d : Nat) (w : World) (ha : SlN w A c x) (hb : SlN w B d y) (hl : (dg x.natAbs).length + (dg y.natAbs).length ≤ 90000) :
    Calls Try.prog 11 #[.agg #[.bool (decide (x < 0)), .slice (A) (dg (x).natAbs).length (c)], .agg #[.bool (decide (y < 0)), .slice (B) (dg (y).natAbs).length (d)]] w (RetN (x * y) w) := by
  have e : (val (dg x.natAbs) * val (dg y.natAbs)).toNat = x.natAbs * y.natAbs := by
    rw [val_dg, val_dg, ← Int.natCast_mul, Int.toNat_natCast]
  refine wMul_core (dg x.natAbs) (dg y.natAbs) _ _ (decide (x < 0) != decide (y < 0)) (x * y) A B c d w ha hb hl rfl (by rw [e, Int.natAbs_mul]) ?_ ?_
  · rw [e]
    have m1 := @Int.mul_pos x y
    have m2 := @Int.mul_neg_of_neg_of_pos x y
    have m3 := @Int.mul_neg_of_pos_of_neg x y
    have m4 := @Int.mul_pos_of_neg_of_neg x y
    by_cases hx : x = 0
    · simp [hx]
    · by_cases hy : y = 0
      · simp [hy]
      · have : x.natAbs * y.natAbs ≠ 0 := Nat.mul_ne_zero (by omega) (by omega)
        have h1 : decide (x.natAbs * y.natAbs ≠ 0) = true := decide_eq_true this
        rw [h1, Bool.and_true]
        by_cases gx : x < 0 <;> by_cases gy : y < 0 <;> simp only [gx, gy, decide_true, decide_false]
        · have := m4 gx gy; simp; omega
        · have := m2 gx (by omega); simp; omega
        · have := m3 (by omega) gy; simp; omega
        · have := m1 (by omega) (by omega); simp; omega
  · rw [e]
    have := mul_len x.natAbs y.natAbs _ _ (Nat.le_refl _) (Nat.le_refl _)
    omega
end Go.Proofs.Ythopiolbnhjgnaa
