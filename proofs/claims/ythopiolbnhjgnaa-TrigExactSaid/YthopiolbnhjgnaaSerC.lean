/- Plain numbers: the turning of a pair against the rows of a sine and a cosine. -/
import Derived.Test.YthopiolbnhjgnaaSerB
import Derived.Test.YthopiolbnhjgnaaTrigM
namespace Go.Proofs.Ythopiolbnhjgnaa

/-- How far a turning pair is, at each step (parts of 2^60). -/
def rads : List Int := [700114967507363238, 990112082269311854, 1106978960649022772, 1141047795023094169, 1149927678325489528, 1152171441782618319, 1152733888211911522, 1152874594210386394, 1152909776614050852, 1152918572584041742, 1152920771599607761, 1152921321354941052, 1152921458793864487, 1152921493153600978, 1152921501743535452, 1152921503891019093, 1152921504427890005, 1152921504562107733, 1152921504595662165, 1152921504604050773, 1152921504606147925, 1152921504606672213, 1152921504606803285, 1152921504606836053, 1152921504606844245, 1152921504606846293, 1152921504606846805, 1152921504606846933, 1152921504606846965, 1152921504606846973, 1152921504606846975, 1152921504606846975, 1152921504606846975, 1152921504606846975, 1152921504606846975, 1152921504606846975, 1152921504606846975, 1152921504606846975, 1152921504606846975, 1152921504606846975, 1152921504606846975]
def rad (k : Nat) : Rat := ((rads.getD k 0 : Int) : Rat)
/-- The whole turn; a number of parts of 2^62 of a turn as an angle. -/
def wh : Rat := 6283185307179586476925286766559 / 1000000000000000000000000000000
def ag (z : Int) : Rat := (z : Rat) * (wh / 4611686018427387904)
theorem ag_add (a b : Int) : ag (a + b) = ag a + ag b := by
  unfold ag; rw [Rat.intCast_add]; grind
theorem ag_neg (a : Int) : ag (-a) = -ag a := by
  unfold ag; rw [Rat.intCast_neg]; grind
theorem wh_pos : 0 < wh / 4611686018427387904 := by decide +kernel
theorem ag_mono {a b : Int} (h : a ≤ b) : ag a ≤ ag b := by
  unfold ag
  exact Rat.mul_le_mul_of_nonneg_right (Rat.intCast_le_intCast.2 h) (Rat.le_of_lt wh_pos)
theorem ag_ab {a b : Int} (h0 : -b ≤ a) (h1 : a ≤ b) : Ab (ag a) (ag b) := by
  have h2 := ag_mono h0
  rw [ag_neg] at h2
  exact ⟨h2, ag_mono h1⟩

/-- Each step's angle: its cosine and its sine, by how far the pair is. -/
def goodStep (k : Nat) (a : Int) (s : Rat) : Prop :=
  Ab (rad (k + 1) * co 60 (ag a) - rad k) 5 ∧ Ab (rad (k + 1) * si 60 (ag a) - s * (rad k / 2 ^ k)) 5
instance (x B : Rat) : Decidable (Ab x B) := by unfold Ab; infer_instance
instance (k : Nat) (a : Int) (s : Rat) : Decidable (goodStep k a s) := by unfold goodStep; infer_instance
theorem steps_left : ∀ k : Fin 40, goodStep k.1 (ang k.1) 1 := by decide +kernel
theorem steps_right : ∀ k : Fin 40, goodStep k.1 (-ang k.1) (-1) := by decide +kernel
theorem start_good : Ab ((cstart : Rat) - rad 0 * co 60 (ag 576460752303423488)) 5 ∧ Ab ((cstart : Rat) - rad 0 * si 60 (ag 576460752303423488)) 5 := by decide +kernel
theorem off55 : off 60 5 5 ≤ 1 / 100000000000000000000 := by decide +kernel
theorem ex5 : ex 60 5 ≤ 149 := by decide +kernel
theorem rad_le (k : Nat) (h : k ≤ 40) : 0 ≤ rad k ∧ rad k ≤ 1152921504606846976 := by
  have : ∀ j : Fin 41, 0 ≤ rad j.1 ∧ rad j.1 ≤ 1152921504606846976 := by decide +kernel
  exact this ⟨k, by omega⟩

/-- How far the angle may still be. -/
def bE : Nat → Int
  | 0 => 1279524658385830338
  | k + 1 => bE k - ang k
theorem bE_ok (k : Nat) (h : k < 40) : ang k ≤ bE (k + 1) := by
  have : ∀ j : Fin 40, ang j.1 ≤ bE (j.1 + 1) := by decide +kernel
  exact this ⟨k, h⟩
theorem bE_40 : bE 40 ≤ 2000000 := by decide +kernel
theorem bE_le (k : Nat) (h : k ≤ 40) : bE k ≤ 1279524658385830338 := by
  have : ∀ j : Fin 41, bE j.1 ≤ 1279524658385830338 := by decide +kernel
  exact this ⟨k, by omega⟩
theorem runZ_bE (z x y : Int) (h0 : -1279524658385830338 ≤ z) (h1 : z ≤ 1279524658385830338) : ∀ k, k ≤ 40 → -bE k ≤ (runZ z x y k).z ∧ (runZ z x y k).z ≤ bE k
  | 0, _ => ⟨h0, h1⟩
  | k + 1, hk => by
    obtain ⟨a, b⟩ := runZ_bE z x y h0 h1 k (by omega)
    have c := bE_ok k (by omega)
    have d : bE (k + 1) = bE k - ang k := rfl
    simp only [runZ]
    split
    · simp only [Tri.left]; omega
    · simp only [Tri.right]; omega

theorem floor_rest (y : Int) (k : Nat) : ∃ r : Rat, ((y / 2 ^ k : Int) : Rat) = (y : Rat) / 2 ^ k - r ∧ 0 ≤ r ∧ r ≤ 1 := by
  have hp : (0 : Int) < 2 ^ k := Int.pow_pos (by decide)
  have e := Int.mul_ediv_add_emod y (2 ^ k)
  have l0 := Int.emod_nonneg y (Int.ne_of_gt hp)
  have l1 := Int.emod_lt_of_pos y hp
  generalize y / 2 ^ k = q at *
  generalize y % 2 ^ k = m at *
  have hq : (0 : Rat) < 2 ^ k := by
    have : ((0 : Int) : Rat) < (((2 : Int) ^ k : Int) : Rat) := Rat.intCast_lt_intCast.2 hp
    simpa using this
  have e2 : (y : Rat) = 2 ^ k * (q : Rat) + (m : Rat) := by
    rw [← e]; simp
  have m0 : (0 : Rat) ≤ (m : Rat) := by exact_mod_cast l0
  have m1 : (m : Rat) ≤ 2 ^ k := by
    have : (m : Rat) ≤ (((2 : Int) ^ k : Int) : Rat) := Rat.intCast_le_intCast.2 (by omega)
    simpa using this
  refine ⟨(m : Rat) / 2 ^ k, ?_, ?_, ?_⟩
  · rw [e2]
    generalize (2 : Rat) ^ k = p at *
    have : p ≠ 0 := Rat.ne_of_gt hq
    grind
  · have := rdiv_le m0 hq
    rw [Rat.div_def, Rat.zero_mul] at this
    exact this
  · have := rdiv_le m1 hq
    generalize (2 : Rat) ^ k = p at *
    have h : p / p = 1 := by
      have : p ≠ 0 := Rat.ne_of_gt hq
      grind
    rw [h] at this
    exact this

/-- The error of a step. -/
def eB : Nat → Rat
  | 0 => 5
  | k + 1 => eB k + eB k / 2 ^ k + 1500
theorem eB_40 : eB 40 ≤ 1000000 := by decide +kernel
theorem inv_two (k : Nat) : 0 < (1 : Rat) / 2 ^ k ∧ (1 : Rat) / 2 ^ k ≤ 1 := by
  have hp : (1 : Int) ≤ 2 ^ k := Int.pow_pos (by decide)
  have h : (1 : Rat) ≤ 2 ^ k := by
    have : ((1 : Int) : Rat) ≤ (((2 : Int) ^ k : Int) : Rat) := Rat.intCast_le_intCast.2 hp
    simpa using this
  have hq : (0 : Rat) < 2 ^ k := by grind
  constructor
  · rw [Rat.div_def, one_mul']
    exact Rat.inv_pos.2 hq
  · have := rdiv_le h hq
    generalize (2 : Rat) ^ k = p at *
    have h : p / p = 1 := by
      have : p ≠ 0 := Rat.ne_of_gt hq
      grind
    rw [h] at this
    exact this

/-- One step, by numbers alone: s is the sign of the step. -/
theorem step_num (x y fx fy R R' c d ca sa c2 d2 q e r1 r2 s : Rat) (hs : s = 1 ∨ s = -1)
    (hx : Ab (x - R * c) e) (hy : Ab (y - R * d) e)
    (h1 : fx = x - s * (y * q - r1)) (h2 : fy = y + s * (x * q - r2)) (hr1 : 0 ≤ r1 ∧ r1 ≤ 1) (hr2 : 0 ≤ r2 ∧ r2 ≤ 1) (hq : 0 < q ∧ q ≤ 1)
    (k1 : Ab (R' * ca - R) 5) (k2 : Ab (R' * sa - s * (R * q)) 5) (hR : 0 ≤ R' ∧ R' ≤ 1152921504606846976)
    (hc : Ab c 149) (hd : Ab d 149)
    (t1 : Ab (ca * c - sa * d - c2) (1 / 100000000000000000000)) (t2 : Ab (sa * c + ca * d - d2) (1 / 100000000000000000000)) :
    Ab (fx - R' * c2) (e + e * q + 1500) ∧ Ab (fy - R' * d2) (e + e * q + 1500) := by
  have a1 := k1.mul hc
  have a2 := k2.mul hd
  have a3 := k1.mul hd
  have a4 := k2.mul hc
  have b1 := (show Ab R' 1152921504606846976 from ⟨by grind, hR.2⟩).mul t1
  have b2 := (show Ab R' 1152921504606846976 from ⟨by grind, hR.2⟩).mul t2
  have c1 := hy.mul (show Ab q q from ⟨by grind, by grind⟩)
  have c3 := hx.mul (show Ab q q from ⟨by grind, by grind⟩)
  have n1 : (1152921504606846976 : Rat) * (1 / 100000000000000000000) ≤ 1 := by decide +kernel
  have e1 : fx - R' * c2 = (x - R * c) - s * ((y - R * d) * q) + s * r1 - (R' * ca - R) * c + (R' * sa - s * (R * q)) * d + R' * (ca * c - sa * d - c2) := by
    rw [h1]; grind
  have e2 : fy - R' * d2 = (y - R * d) + s * ((x - R * c) * q) - s * r2 - (R' * ca - R) * d - (R' * sa - s * (R * q)) * c + R' * (sa * c + ca * d - d2) := by
    rw [h2]; grind
  rw [e1, e2]
  generalize (R' * ca - R) * c = u1 at *
  generalize (R' * sa - s * (R * q)) * d = u2 at *
  generalize (R' * ca - R) * d = u3 at *
  generalize (R' * sa - s * (R * q)) * c = u4 at *
  generalize R' * (ca * c - sa * d - c2) = u5 at *
  generalize R' * (sa * c + ca * d - d2) = u6 at *
  generalize (y - R * d) * q = u7 at *
  generalize (x - R * c) * q = u8 at *
  generalize x - R * c = u9 at *
  generalize y - R * d = u10 at *
  generalize e * q = u11 at *
  unfold Ab at *
  rcases hs with rfl | rfl
  · constructor <;> constructor <;> grind
  · constructor <;> constructor <;> grind

/-- The pair at each step, against the exact one. -/
theorem run_near (t : Int) (h0 : 0 ≤ t) (h1 : t < 1152921504606846976) : ∀ k, k ≤ 40 →
    Ab (((runZ (t - 576460752303423488) cstart cstart k).x : Rat) - rad k * co 60 (ag (t - (runZ (t - 576460752303423488) cstart cstart k).z))) (eB k) ∧
    Ab (((runZ (t - 576460752303423488) cstart cstart k).y : Rat) - rad k * si 60 (ag (t - (runZ (t - 576460752303423488) cstart cstart k).z))) (eB k)
  | 0, _ => by
    simp only [runZ, eB]
    rw [show t - (t - 576460752303423488) = 576460752303423488 by omega]
    exact start_good
  | k + 1, hk => by
    obtain ⟨hx, hy⟩ := run_near t h0 h1 k (by omega)
    have hb := runZ_bE (t - 576460752303423488) cstart cstart (by omega) (by omega) k (by omega)
    have hbk := bE_le k (by omega)
    have hR := rad_le (k + 1) hk
    have hq := inv_two k
    simp only [runZ]
    generalize runZ (t - 576460752303423488) cstart cstart k = T at *
    have hphi : Ab (ag (t - T.z)) 5 := (ag_ab (a := t - T.z) (b := 2434573047501241128) (by omega) (by omega)).mono (by decide +kernel)
    have halpha : Ab (ag (ang k)) 5 := (ag_ab (a := ang k) (b := 576460752303423488) (by have := ang_nn k; omega) (ang_le k)).mono (by decide +kernel)
    have hc := (co_ab hphi 60).mono ex5
    have hd := (si_ab hphi 60).mono ex5
    obtain ⟨r1, f1, g1⟩ := floor_rest T.y k
    obtain ⟨r2, f2, g2⟩ := floor_rest T.x k
    have q1 : (T.y : Rat) / 2 ^ k = (T.y : Rat) * (1 / 2 ^ k) := by rw [Rat.div_def, Rat.div_def, one_mul']
    have q2 : (T.x : Rat) / 2 ^ k = (T.x : Rat) * (1 / 2 ^ k) := by rw [Rat.div_def, Rat.div_def, one_mul']
    have q3 : rad k / 2 ^ k = rad k * (1 / 2 ^ k) := by rw [Rat.div_def, Rat.div_def, one_mul']
    have q4 : eB k / 2 ^ k = eB k * (1 / 2 ^ k) := by rw [Rat.div_def, Rat.div_def, one_mul']
    split
    · have st := steps_left ⟨k, by omega⟩
      unfold goodStep at st
      simp only at st
      rw [q3] at st
      simp only [Tri.left, eB]
      rw [show t - (T.z - ang k) = ang k + (t - T.z) by omega, ag_add, q4]
      have t1 := (co_add halpha hphi 60).mono off55
      have t2 := (si_add halpha hphi 60).mono off55
      exact step_num _ _ _ _ _ _ _ _ _ _ _ _ (1 / 2 ^ k) _ r1 r2 1 (Or.inl rfl) hx hy (by rw [Rat.intCast_sub, f1, q1]; grind) (by rw [Rat.intCast_add, f2, q2]; grind) g1 g2 hq st.1 st.2 hR hc hd t1 t2
    · have st := steps_right ⟨k, by omega⟩
      unfold goodStep at st
      simp only at st
      rw [q3] at st
      simp only [Tri.right, eB]
      have halpha2 : Ab (ag (-ang k)) 5 := by rw [ag_neg]; exact halpha.neg
      rw [show t - (T.z + ang k) = -ang k + (t - T.z) by omega, ag_add, q4]
      have t1 := (co_add halpha2 hphi 60).mono off55
      have t2 := (si_add halpha2 hphi 60).mono off55
      exact step_num _ _ _ _ _ _ _ _ _ _ _ _ (1 / 2 ^ k) _ r1 r2 (-1) (Or.inr rfl) hx hy (by rw [Rat.intCast_add, f1, q1]; grind) (by rw [Rat.intCast_sub, f2, q2]; grind) g1 g2 hq st.1 st.2 hR hc hd t1 t2
end Go.Proofs.Ythopiolbnhjgnaa
