/- Plain numbers: the rows of a sine and a cosine, of a sum of angles: how far they may be off. -/
import Derived.Test.YthopiolbnhjgnaaSer
namespace Go.Proofs.Ythopiolbnhjgnaa

/-- No greater than so much, with either sign. -/
def Ab (x B : Rat) : Prop := -B ≤ x ∧ x ≤ B
theorem Ab.nn {x B : Rat} (h : Ab x B) : 0 ≤ B := by
  unfold Ab at h; grind
theorem Ab.mul {a b A B : Rat} (ha : Ab a A) (hb : Ab b B) : Ab (a * b) (A * B) := by
  unfold Ab at *
  have h1 := Rat.mul_nonneg (show 0 ≤ A - a by grind) (show 0 ≤ B + b by grind)
  have h2 := Rat.mul_nonneg (show 0 ≤ A + a by grind) (show 0 ≤ B - b by grind)
  have h3 := Rat.mul_nonneg (show 0 ≤ A - a by grind) (show 0 ≤ B - b by grind)
  have h4 := Rat.mul_nonneg (show 0 ≤ A + a by grind) (show 0 ≤ B + b by grind)
  grind
theorem Ab.add {a b A B : Rat} (ha : Ab a A) (hb : Ab b B) : Ab (a + b) (A + B) := by unfold Ab at *; grind
theorem Ab.sub {a b A B : Rat} (ha : Ab a A) (hb : Ab b B) : Ab (a - b) (A + B) := by unfold Ab at *; grind
theorem Ab.neg {a A : Rat} (ha : Ab a A) : Ab (-a) A := by unfold Ab at *; grind
theorem Ab.mono {a A B : Rat} (ha : Ab a A) (h : A ≤ B) : Ab a B := by unfold Ab at *; grind
theorem rdiv_le {a b c : Rat} (h : a ≤ b) (hc : 0 < c) : a / c ≤ b / c := by
  rw [Rat.div_def, Rat.div_def]
  exact Rat.mul_le_mul_of_nonneg_right h (Rat.le_of_lt (Rat.inv_pos.2 hc))
theorem Ab.div {a A c : Rat} (ha : Ab a A) (hc : 0 < c) : Ab (a / c) (A / c) := by
  have h1 := rdiv_le ha.1 hc
  have h2 := rdiv_le ha.2 hc
  rw [Rat.div_def] at h1
  rw [Rat.neg_mul, ← Rat.div_def] at h1
  exact ⟨h1, h2⟩
theorem pw_ab {x A : Rat} (h : Ab x A) : ∀ n, Ab (pw x n) (pw A n)
  | 0 => by unfold Ab; simp only [pw]; grind
  | n + 1 => ((pw_ab h n).mul h).div (nat_pos n)
theorem pw_nn {A : Rat} (h : 0 ≤ A) (n : Nat) : 0 ≤ pw A n := (pw_ab (x := A) (A := A) ⟨by grind, by grind⟩ n).nn
theorem sm_ab {f g : Nat → Rat} : ∀ n, (∀ i, i < n → Ab (f i) (g i)) → Ab (sm f n) (sm g n)
  | 0, _ => by unfold Ab; simp only [sm]; grind
  | n + 1, h => (sm_ab n (fun i hi => h i (by omega))).add (h n (by omega))
theorem cg_ab (n : Nat) : Ab (cg n) 1 := by
  unfold Ab
  rcases cs_one n with ⟨a, b | b⟩ | ⟨a, b | b⟩
  · rw [a]; decide
  · rw [a]; decide
  · rw [b]; decide
  · rw [b]; decide
theorem sg_ab (n : Nat) : Ab (sg n) 1 := by
  unfold Ab
  rcases cs_one n with ⟨a, b | b⟩ | ⟨a, b | b⟩
  · rw [b]; decide
  · rw [b]; decide
  · rw [a]; decide
  · rw [a]; decide
theorem one_mul' (a : Rat) : 1 * a = a := by grind
theorem co_ab {x A : Rat} (h : Ab x A) (N : Nat) : Ab (co N x) (ex N A) := by
  unfold co ex
  apply sm_ab
  intro i _
  have := (cg_ab i).mul (pw_ab h i)
  rwa [one_mul'] at this
theorem si_ab {x A : Rat} (h : Ab x A) (N : Nat) : Ab (si N x) (ex N A) := by
  unfold si ex
  apply sm_ab
  intro i _
  have := (sg_ab i).mul (pw_ab h i)
  rwa [one_mul'] at this
/-- What is left behind so many terms. -/
theorem tail_ab (f g : Nat → Rat) (h : ∀ i, Ab (f i) (g i)) (K : Nat) : ∀ N, K ≤ N → Ab (sm f N - sm f K) (sm g N - sm g K)
  | 0, hK => by
    obtain rfl : K = 0 := by omega
    unfold Ab; simp only [sm]; grind
  | N + 1, hK => by
    by_cases e : K = N + 1
    · subst e
      unfold Ab; grind
    · have a := tail_ab f g h K N (by omega)
      have b := h N
      unfold Ab at *
      simp only [sm]
      grind
theorem co_tail {x A : Rat} (h : Ab x A) (K N : Nat) (hK : K ≤ N) : Ab (co N x - co K x) (ex N A - ex K A) := by
  unfold co ex
  apply tail_ab _ _ _ K N hK
  intro i
  have := (cg_ab i).mul (pw_ab h i)
  rwa [one_mul'] at this
theorem si_tail {x A : Rat} (h : Ab x A) (K N : Nat) (hK : K ≤ N) : Ab (si N x - si K x) (ex N A - ex K A) := by
  unfold si ex
  apply tail_ab _ _ _ K N hK
  intro i
  have := (sg_ab i).mul (pw_ab h i)
  rwa [one_mul'] at this
/-- How far a sum of angles may be off. -/
def off (N : Nat) (A B : Rat) : Rat := ex N A * ex N B - ex N (A + B)
theorem off_is (N : Nat) (A B : Rat) : off N A B = sm (fun m => pw A m * (ex N B - ex (N - m) B)) N := by
  unfold off
  rw [ex_sum]
  have e : ex N A * ex N B = sm (fun m => pw A m * ex N B) N := by
    have h := sm_mul (ex N B) (fun m => pw A m) N
    have e2 : sm (fun m => pw A m * ex N B) N = sm (fun m => ex N B * pw A m) N := by
      apply sm_congr
      intro i _
      grind
    rw [e2, h]
    unfold ex
    grind
  rw [e, ← sm_sub]
  apply sm_congr
  intro i _
  grind
theorem pick_ab (c s p q P Q : Rat) (h : (c = 0 ∧ (s = 1 ∨ s = -1)) ∨ (s = 0 ∧ (c = 1 ∨ c = -1))) (hp : Ab p P) (hq : Ab q P) (_hQ : Q = P) : Ab (c * p + s * q) P := by
  unfold Ab at *
  rcases h with ⟨a, b | b⟩ | ⟨a, b | b⟩ <;> rw [a, b] <;> grind
theorem co_add {x y A B : Rat} (hx : Ab x A) (hy : Ab y B) (N : Nat) : Ab (co N x * co N y - si N x * si N y - co N (x + y)) (off N A B) := by
  rw [off_is, co_sum]
  have e : co N x * co N y - si N x * si N y = sm (fun m => pw x m * (cg m * co N y + sg m * (-si N y))) N := by
    have h1 := sm_mul (co N y) (fun m => cg m * pw x m) N
    have h2 := sm_mul (si N y) (fun m => sg m * pw x m) N
    have e1 : co N x * co N y = sm (fun m => co N y * (cg m * pw x m)) N := by rw [h1]; unfold co; grind
    have e2 : si N x * si N y = sm (fun m => si N y * (sg m * pw x m)) N := by rw [h2]; unfold si; grind
    rw [e1, e2, ← sm_sub]
    apply sm_congr
    intro i _
    grind
  rw [e, ← sm_sub]
  apply sm_ab
  intro m hm
  have t1 := co_tail hy (N - m) N (by omega)
  have t2 := (si_tail hy (N - m) N (by omega)).neg
  have t3 := pick_ab _ _ _ _ _ _ (cs_one m) t1 t2 rfl
  have t4 := (pw_ab hx m).mul t3
  have e2 : pw x m * (cg m * co N y + sg m * -si N y) - pw x m * (cg m * co (N - m) y - sg m * si (N - m) y) = pw x m * (cg m * (co N y - co (N - m) y) + sg m * -(si N y - si (N - m) y)) := by grind
  rw [e2]
  exact t4
theorem si_add {x y A B : Rat} (hx : Ab x A) (hy : Ab y B) (N : Nat) : Ab (si N x * co N y + co N x * si N y - si N (x + y)) (off N A B) := by
  rw [off_is, si_sum]
  have e : si N x * co N y + co N x * si N y = sm (fun m => pw x m * (sg m * co N y + cg m * si N y)) N := by
    have h1 := sm_mul (co N y) (fun m => sg m * pw x m) N
    have h2 := sm_mul (si N y) (fun m => cg m * pw x m) N
    have e1 : si N x * co N y = sm (fun m => co N y * (sg m * pw x m)) N := by rw [h1]; unfold si; grind
    have e2 : co N x * si N y = sm (fun m => si N y * (cg m * pw x m)) N := by rw [h2]; unfold co; grind
    rw [e1, e2, ← sm_add]
    apply sm_congr
    intro i _
    grind
  rw [e, ← sm_sub]
  apply sm_ab
  intro m hm
  have t1 := si_tail hy (N - m) N (by omega)
  have t2 := co_tail hy (N - m) N (by omega)
  have t3 := pick_ab _ _ _ _ _ _ (cs_one m) t1 t2 rfl
  have t4 := (pw_ab hx m).mul t3
  have e2 : pw x m * (sg m * co N y + cg m * si N y) - pw x m * (sg m * co (N - m) y + cg m * si (N - m) y) = pw x m * (cg m * (si N y - si (N - m) y) + sg m * (co N y - co (N - m) y)) := by grind
  rw [e2]
  exact t4
theorem off44 : off 60 4 4 ≤ 1 / 1000000000000000000000000000 := by decide +kernel
end Go.Proofs.Ythopiolbnhjgnaa
