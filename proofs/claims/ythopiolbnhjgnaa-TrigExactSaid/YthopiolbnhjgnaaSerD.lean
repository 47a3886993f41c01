/- Plain numbers: a sine and a cosine of any direction against the rows. -/
import Derived.Test.YthopiolbnhjgnaaSerC
import Derived.Test.YthopiolbnhjgnaaNorm
namespace Go.Proofs.Ythopiolbnhjgnaa

theorem bE40q : ag 2000000 ≤ 29 / 10000000000000 := by decide +kernel
theorem exZ : ex 60 (3 / 1000000000000) - ex 1 (3 / 1000000000000) ≤ 31 / 10000000000000 := by decide +kernel
theorem co1 (x : Rat) : co 1 x = 1 := by simp [co, sm, cg, pw]; grind
theorem si1 (x : Rat) : si 1 x = 0 := by simp [si, sm, sg, pw]; grind
/-- A very small angle more. -/
theorem small_more (z p : Rat) (hz : Ab z (3 / 1000000000000)) (hp : Ab p 2) :
    Ab (co 60 (z + p) - co 60 p) (1 / 1000000000) ∧ Ab (si 60 (z + p) - si 60 p) (1 / 1000000000) := by
  have c1 := (co_tail hz 1 60 (by decide)).mono exZ
  have s1 := (si_tail hz 1 60 (by decide)).mono exZ
  rw [co1] at c1
  rw [si1] at s1
  have hp5 : Ab p 5 := hp.mono (by decide +kernel)
  have hz5 : Ab z 5 := hz.mono (by decide +kernel)
  have gc := (co_ab hp5 60).mono ex5
  have gs := (si_ab hp5 60).mono ex5
  have t1 := (co_add hz5 hp5 60).mono off55
  have t2 := (si_add hz5 hp5 60).mono off55
  have a1 := c1.mul gc
  have a2 := s1.mul gs
  have a3 := c1.mul gs
  have a4 := s1.mul gc
  have e1 : co 60 (z + p) - co 60 p = (co 60 z - 1) * co 60 p - (si 60 z - 0) * si 60 p - (co 60 z * co 60 p - si 60 z * si 60 p - co 60 (z + p)) := by grind
  have e2 : si 60 (z + p) - si 60 p = (co 60 z - 1) * si 60 p + (si 60 z - 0) * co 60 p - (si 60 z * co 60 p + co 60 z * si 60 p - si 60 (z + p)) := by grind
  rw [e1, e2]
  generalize (co 60 z - 1) * co 60 p = u1 at *
  generalize (si 60 z - 0) * si 60 p = u2 at *
  generalize (co 60 z - 1) * si 60 p = u3 at *
  generalize (si 60 z - 0) * co 60 p = u4 at *
  generalize co 60 z * co 60 p - si 60 z * si 60 p - co 60 (z + p) = u5 at *
  generalize si 60 z * co 60 p + co 60 z * si 60 p - si 60 (z + p) = u6 at *
  unfold Ab at *
  constructor <;> constructor <;> grind

/-- A quarter's parts, rounded, against the rows. -/
theorem quarter_near (t : Int) : ∃ z : Int, -2000000 ≤ z ∧ z ≤ 2000000 ∧
    Ab ((cosQ t : Rat) - 1073741824 * co 60 (ag (t % 1073741824 * 1073741824 - z))) (6 / 10) ∧
    Ab ((sinQ t : Rat) - 1073741824 * si 60 (ag (t % 1073741824 * 1073741824 - z))) (6 / 10) := by
  obtain ⟨hx, hy⟩ := run_near (t % 1073741824 * 1073741824) (by omega) (by omega) 40 (Nat.le_refl _)
  obtain ⟨b0, b1⟩ := runZ_bE (t % 1073741824 * 1073741824 - 576460752303423488) cstart cstart (by omega) (by omega) 40 (Nat.le_refl _)
  have hb := bE_40
  have hn := sq_end (rest t) (rest_bd t)
  have er : rest t = t % 1073741824 * 1073741824 - 576460752303423488 := rfl
  unfold cosQ sinQ
  rw [er] at hn ⊢
  generalize runZ (t % 1073741824 * 1073741824 - 576460752303423488) cstart cstart 40 = T at *
  unfold sq at hn
  obtain ⟨x0, x1⟩ := sq_part T.x T.y hn.2
  obtain ⟨y0, y1⟩ := sq_part T.y T.x (by omega)
  obtain ⟨a0, a1⟩ := rnd_near T.x x0 x1
  obtain ⟨c0, c1⟩ := rnd_near T.y y0 y1
  refine ⟨T.z, by omega, by omega, ?_⟩
  have hphi : Ab (ag (t % 1073741824 * 1073741824 - T.z)) 5 := (ag_ab (a := t % 1073741824 * 1073741824 - T.z) (b := 1152921504608846976) (by omega) (by omega)).mono (by decide +kernel)
  have gc := (co_ab hphi 60).mono ex5
  have gs := (si_ab hphi 60).mono ex5
  have hr : rad 40 = 1152921504606846975 := by decide +kernel
  rw [hr] at hx hy
  have hx2 := hx.mono eB_40
  have hy2 := hy.mono eB_40
  generalize co 60 (ag (t % 1073741824 * 1073741824 - T.z)) = c at *
  generalize si 60 (ag (t % 1073741824 * 1073741824 - T.z)) = s at *
  generalize rnd T.x = u at *
  generalize rnd T.y = v at *
  generalize T.x = x at *
  generalize T.y = y at *
  have r0 : ((-536870912 : Int) : Rat) ≤ ((x - 1073741824 * u : Int) : Rat) := Rat.intCast_le_intCast.2 a0
  have r1 : ((x - 1073741824 * u : Int) : Rat) ≤ ((536870912 : Int) : Rat) := Rat.intCast_le_intCast.2 a1
  have r2 : ((-536870912 : Int) : Rat) ≤ ((y - 1073741824 * v : Int) : Rat) := Rat.intCast_le_intCast.2 c0
  have r3 : ((y - 1073741824 * v : Int) : Rat) ≤ ((536870912 : Int) : Rat) := Rat.intCast_le_intCast.2 c1
  rw [Rat.intCast_sub, Rat.intCast_mul] at r0 r1 r2 r3
  have k1 : ((1073741824 : Int) : Rat) = 1073741824 := rfl
  have k2 : ((-536870912 : Int) : Rat) = -536870912 := rfl
  have k3 : ((536870912 : Int) : Rat) = 536870912 := rfl
  rw [k1, k2] at r0 r2
  rw [k1, k3] at r1 r3
  unfold Ab at *
  constructor <;> constructor <;> grind

/-- The quarters' own angles. -/
def cq : Nat → Rat := fun q => if q = 0 then 1 else if q = 1 then 0 else if q = 2 then -1 else 0
def sq4 : Nat → Rat := fun q => if q = 0 then 0 else if q = 1 then 1 else if q = 2 then 0 else -1
theorem quarters : ∀ q : Fin 4, Ab (co 60 (ag ((q.1 : Int) * 1152921504606846976)) - cq q.1) (1 / 100000000000000000000) ∧ Ab (si 60 (ag ((q.1 : Int) * 1152921504606846976)) - sq4 q.1) (1 / 100000000000000000000) ∧ Ab (ag ((q.1 : Int) * 1152921504606846976)) 5 := by decide +kernel
/-- Some quarters more. -/
theorem quarter_more (q : Nat) (hq : q < 4) (p : Rat) (hp : Ab p 3) :
    Ab (co 60 (ag ((q : Int) * 1152921504606846976) + p) - (cq q * co 60 p - sq4 q * si 60 p)) (1 / 1000000000000) ∧
    Ab (si 60 (ag ((q : Int) * 1152921504606846976) + p) - (sq4 q * co 60 p + cq q * si 60 p)) (1 / 1000000000000) := by
  obtain ⟨c1, s1, hb⟩ := quarters ⟨q, hq⟩
  simp only at c1 s1 hb
  have hp5 : Ab p 5 := hp.mono (by decide +kernel)
  have gc := (co_ab hp5 60).mono ex5
  have gs := (si_ab hp5 60).mono ex5
  have t1 := (co_add hb hp5 60).mono off55
  have t2 := (si_add hb hp5 60).mono off55
  generalize ag ((q : Int) * 1152921504606846976) = b at *
  generalize cq q = k at *
  generalize sq4 q = l at *
  have a1 := c1.mul gc
  have a2 := s1.mul gs
  have a3 := c1.mul gs
  have a4 := s1.mul gc
  have e1 : co 60 (b + p) - (k * co 60 p - l * si 60 p) = (co 60 b - k) * co 60 p - (si 60 b - l) * si 60 p - (co 60 b * co 60 p - si 60 b * si 60 p - co 60 (b + p)) := by grind
  have e2 : si 60 (b + p) - (l * co 60 p + k * si 60 p) = (co 60 b - k) * si 60 p + (si 60 b - l) * co 60 p - (si 60 b * co 60 p + co 60 b * si 60 p - si 60 (b + p)) := by grind
  rw [e1, e2]
  generalize (co 60 b - k) * co 60 p = u1 at *
  generalize (si 60 b - l) * si 60 p = u2 at *
  generalize (co 60 b - k) * si 60 p = u3 at *
  generalize (si 60 b - l) * co 60 p = u4 at *
  generalize co 60 b * co 60 p - si 60 b * si 60 p - co 60 (b + p) = u5 at *
  generalize si 60 b * co 60 p + co 60 b * si 60 p - si 60 (b + p) = u6 at *
  unfold Ab at *
  constructor <;> constructor <;> grind

/-- The direction as an angle, in parts of ten to the power of thirty, cut. -/
def angI (t : Int) : Int := 6283185307179586476925286766559 * t / 4294967296
def angR (t : Int) : Rat := (angI t : Rat) / 1000000000000000000000000000000
theorem angR_is (t : Int) : ∃ f : Rat, 0 ≤ f ∧ f ≤ 1 / 1000000000000000000000000000000 ∧ angR t = ag (t * 1073741824) - f := by
  have e := Int.mul_ediv_add_emod (6283185307179586476925286766559 * t) 4294967296
  have l0 := Int.emod_nonneg (6283185307179586476925286766559 * t) (show (4294967296 : Int) ≠ 0 by decide)
  have l1 := Int.emod_lt_of_pos (6283185307179586476925286766559 * t) (show (0 : Int) < 4294967296 by decide)
  unfold angR angI ag wh
  generalize 6283185307179586476925286766559 * t / 4294967296 = q at *
  generalize 6283185307179586476925286766559 * t % 4294967296 = m at *
  have e2 : ((4294967296 * q + m : Int) : Rat) = ((6283185307179586476925286766559 * t : Int) : Rat) := by rw [e]
  rw [Rat.intCast_add, Rat.intCast_mul, Rat.intCast_mul] at e2
  rw [Rat.intCast_mul]
  have m0 : (0 : Rat) ≤ (m : Rat) := by exact_mod_cast l0
  have m1 : (m : Rat) ≤ ((4294967296 : Int) : Rat) := Rat.intCast_le_intCast.2 (by omega)
  have k1 : ((4294967296 : Int) : Rat) = 4294967296 := rfl
  have k2 : ((6283185307179586476925286766559 : Int) : Rat) = 6283185307179586476925286766559 := rfl
  have k3 : ((1073741824 : Int) : Rat) = 1073741824 := rfl
  rw [k1] at m1 e2
  rw [k2] at e2
  rw [k3]
  exact ⟨(m : Rat) / 4294967296 / 1000000000000000000000000000000, by grind, by grind, by grind⟩

/-- A sine and a cosine of any direction, against the rows. -/
theorem turn_near (t : Int) (h0 : 0 ≤ t) (h1 : t ≤ 4294967295) :
    Ab ((sinT t : Rat) - 1073741824 * si 60 (angR t)) 3 ∧ Ab ((cosT t : Rat) - 1073741824 * co 60 (angR t)) 3 := by
  obtain ⟨z, z0, z1, hc, hs⟩ := quarter_near t
  obtain ⟨f, f0, f1, hf⟩ := angR_is t
  obtain ⟨q, hq⟩ : ∃ q : Nat, (q : Int) = t / 1073741824 := ⟨(t / 1073741824).toNat, by omega⟩
  have q4 : q < 4 := by omega
  have hz : Ab (ag z) (29 / 10000000000000) := (ag_ab (a := z) (b := 2000000) z0 z1).mono bE40q
  have hzf : Ab (ag z - f) (3 / 1000000000000) := by unfold Ab at *; grind
  have hphi : Ab (ag (t % 1073741824 * 1073741824 - z)) 2 := (ag_ab (a := t % 1073741824 * 1073741824 - z) (b := 1152921504608846976) (by omega) (by omega)).mono (by decide +kernel)
  obtain ⟨m1, m2⟩ := small_more _ _ hzf hphi
  have ea : angR t = ag ((q : Int) * 1152921504606846976) + ((ag z - f) + ag (t % 1073741824 * 1073741824 - z)) := by
    rw [hf, show t * 1073741824 = (q : Int) * 1152921504606846976 + (z + (t % 1073741824 * 1073741824 - z)) by omega, ag_add, ag_add]
    grind
  have hp3 : Ab ((ag z - f) + ag (t % 1073741824 * 1073741824 - z)) 3 := (hzf.add hphi).mono (by decide +kernel)
  obtain ⟨n1, n2⟩ := quarter_more q q4 _ hp3
  rw [ea]
  generalize co 60 (ag ((q : Int) * 1152921504606846976) + ((ag z - f) + ag (t % 1073741824 * 1073741824 - z))) = C at *
  generalize si 60 (ag ((q : Int) * 1152921504606846976) + ((ag z - f) + ag (t % 1073741824 * 1073741824 - z))) = S at *
  generalize co 60 ((ag z - f) + ag (t % 1073741824 * 1073741824 - z)) = c1 at *
  generalize si 60 ((ag z - f) + ag (t % 1073741824 * 1073741824 - z)) = s1 at *
  generalize co 60 (ag (t % 1073741824 * 1073741824 - z)) = c at *
  generalize si 60 (ag (t % 1073741824 * 1073741824 - z)) = s at *
  clear ea hf hphi hzf hz hp3
  unfold sinT cosT
  generalize sinQ t = u at *
  generalize cosQ t = v at *
  rw [← hq]
  clear hq
  unfold cq sq4 at n1 n2
  rcases (show q = 0 ∨ q = 1 ∨ q = 2 ∨ q = 3 by omega) with rfl | rfl | rfl | rfl
  · simp only [] at n1 n2 ⊢
    simp at n1 n2 ⊢
    unfold Ab at *
    constructor <;> constructor <;> grind
  · simp at n1 n2 ⊢
    unfold Ab at *
    constructor <;> constructor <;> grind
  · simp at n1 n2 ⊢
    unfold Ab at *
    constructor <;> constructor <;> grind
  · simp at n1 n2 ⊢
    unfold Ab at *
    constructor <;> constructor <;> grind
end Go.Proofs.Ythopiolbnhjgnaa
