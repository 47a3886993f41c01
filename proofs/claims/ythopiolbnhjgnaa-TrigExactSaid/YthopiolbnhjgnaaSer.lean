/- Plain numbers: rows of a sine and a cosine, over fractions; the law of sums of angles, but for little. -/
namespace Go.Proofs.Ythopiolbnhjgnaa

/-- x to the power of n by n's factorial. -/
def pw (x : Rat) : Nat → Rat
  | 0 => 1
  | n + 1 => pw x n * x / ((n : Rat) + 1)
/-- A sum of so many. -/
def sm (f : Nat → Rat) : Nat → Rat
  | 0 => 0
  | n + 1 => sm f n + f n
theorem nat_pos (n : Nat) : (0 : Rat) < (n : Rat) + 1 := by
  have h : (0 : Rat) ≤ (n : Rat) := Rat.natCast_nonneg
  grind
theorem rcancel {c a b : Rat} (h : c * a = c * b) (hc : c ≠ 0) : a = b := by grind
theorem pw_step (x : Rat) (n : Nat) : ((n : Rat) + 1) * pw x (n + 1) = x * pw x n := by
  have h := nat_pos n
  simp only [pw]
  generalize pw x n = p
  generalize (n : Rat) = m at *
  grind
theorem sm_congr {f g : Nat → Rat} : ∀ n, (∀ i, i < n → f i = g i) → sm f n = sm g n
  | 0, _ => rfl
  | n + 1, h => by
    simp only [sm]
    rw [sm_congr n (fun i hi => h i (by omega)), h n (by omega)]
theorem sm_front (f : Nat → Rat) : ∀ n, sm f (n + 1) = f 0 + sm (fun i => f (i + 1)) n
  | 0 => by simp only [sm]; grind
  | n + 1 => by
    have h := sm_front f n
    simp only [sm] at h ⊢
    grind
theorem sm_add (f g : Nat → Rat) : ∀ n, sm (fun i => f i + g i) n = sm f n + sm g n
  | 0 => by simp only [sm]; grind
  | n + 1 => by
    have h := sm_add f g n
    simp only [sm] at h ⊢
    grind
theorem sm_mul (c : Rat) (f : Nat → Rat) : ∀ n, sm (fun i => c * f i) n = c * sm f n
  | 0 => by simp only [sm]; grind
  | n + 1 => by
    have h := sm_mul c f n
    simp only [sm] at h ⊢
    grind
theorem sm_sub (f g : Nat → Rat) : ∀ n, sm (fun i => f i - g i) n = sm f n - sm g n
  | 0 => by simp only [sm]; grind
  | n + 1 => by
    have h := sm_sub f g n
    simp only [sm] at h ⊢
    grind
theorem sm_le {f g : Nat → Rat} : ∀ n, (∀ i, i < n → f i ≤ g i) → sm f n ≤ sm g n
  | 0, _ => by simp only [sm]; grind
  | n + 1, h => by
    have a := sm_le n (fun i hi => h i (by omega))
    have b := h n (by omega)
    simp only [sm]
    grind
theorem sm_nn {f : Nat → Rat} : ∀ n, (∀ i, i < n → 0 ≤ f i) → 0 ≤ sm f n
  | 0, _ => by simp only [sm]; grind
  | n + 1, h => by
    have a := sm_nn n (fun i hi => h i (by omega))
    have b := h n (by omega)
    simp only [sm]
    grind

/-- A power of a sum. -/
theorem pw_sum (x y : Rat) : ∀ n, sm (fun m => pw x m * pw y (n - m)) (n + 1) = pw (x + y) n
  | 0 => by simp [sm, pw]; grind
  | n + 1 => by
    have ih := pw_sum x y n
    have hA : sm (fun m => (m : Rat) * (pw x m * pw y (n + 1 - m))) (n + 1 + 1) = x * pw (x + y) n := by
      rw [sm_front, ← ih, ← sm_mul]
      have e : sm (fun i => ((i + 1 : Nat) : Rat) * (pw x (i + 1) * pw y (n + 1 - (i + 1)))) (n + 1) = sm (fun i => x * (pw x i * pw y (n - i))) (n + 1) := by
        apply sm_congr
        intro i hi
        have h := pw_step x i
        have e2 : n + 1 - (i + 1) = n - i := by omega
        have e3 : ((i + 1 : Nat) : Rat) = (i : Rat) + 1 := by simp
        rw [e2, e3]
        generalize pw x (i + 1) = p at *
        generalize pw y (n - i) = q at *
        grind
      rw [e]
      have z : ((0 : Nat) : Rat) = 0 := rfl
      rw [z]
      grind
    have hB : sm (fun m => ((n + 1 - m : Nat) : Rat) * (pw x m * pw y (n + 1 - m))) (n + 1 + 1) = y * pw (x + y) n := by
      rw [← ih, ← sm_mul]
      simp only [sm.eq_2 _ (n + 1)]
      have z : ((n + 1 - (n + 1) : Nat) : Rat) = 0 := by simp
      rw [z]
      have e : sm (fun m => ((n + 1 - m : Nat) : Rat) * (pw x m * pw y (n + 1 - m))) (n + 1) = sm (fun m => y * (pw x m * pw y (n - m))) (n + 1) := by
        apply sm_congr
        intro i hi
        have h := pw_step y (n - i)
        have e2 : n + 1 - i = n - i + 1 := by omega
        have e3 : ((n - i + 1 : Nat) : Rat) = ((n - i : Nat) : Rat) + 1 := by simp
        rw [e2, e3]
        generalize pw y (n - i + 1) = p at *
        generalize pw x i = q at *
        generalize ((n - i : Nat) : Rat) = r at *
        grind
      rw [e]
      grind
    have hC : sm (fun m => ((n : Rat) + 1) * (pw x m * pw y (n + 1 - m))) (n + 1 + 1) = x * pw (x + y) n + y * pw (x + y) n := by
      rw [← hA, ← hB, ← sm_add]
      apply sm_congr
      intro i hi
      have e : ((n + 1 - i : Nat) : Rat) + (i : Rat) = (n : Rat) + 1 := by
        have : ((n + 1 - i + i : Nat) : Rat) = ((n + 1 : Nat) : Rat) := by rw [show n + 1 - i + i = n + 1 by omega]
        simpa using this
      generalize pw x i * pw y (n + 1 - i) = p at *
      generalize ((n + 1 - i : Nat) : Rat) = r at *
      grind
    rw [sm_mul] at hC
    have hS := pw_step (x + y) n
    have hn := nat_pos n
    generalize sm (fun m => pw x m * pw y (n + 1 - m)) (n + 1 + 1) = L at *
    generalize pw (x + y) (n + 1) = R at *
    have : ((n : Rat) + 1) * L = ((n : Rat) + 1) * R := by grind
    exact rcancel this (Rat.ne_of_gt hn)

/-- A sum over a triangle. -/
theorem sm_tri (g : Nat → Nat → Rat) : ∀ N, sm (fun n => sm (fun m => g m (n - m)) (n + 1)) N = sm (fun m => sm (g m) (N - m)) N
  | 0 => rfl
  | N + 1 => by
    have ih := sm_tri g N
    have e : sm (fun m => sm (g m) (N + 1 - m)) N = sm (fun m => sm (g m) (N - m) + g m (N - m)) N := by
      apply sm_congr
      intro i hi
      rw [show N + 1 - i = N - i + 1 by omega]
      rfl
    have e2 : sm (g N) (N + 1 - N) = g N 0 := by
      rw [show N + 1 - N = 1 by omega]
      simp only [sm]
      grind
    simp only [sm.eq_2 _ N]
    rw [ih, e, e2, sm_add]
    simp only [Nat.sub_self]
    grind

/-- The signs of a cosine's and a sine's rows. -/
def cg : Nat → Rat
  | 0 => 1
  | 1 => 0
  | n + 2 => -cg n
def sg : Nat → Rat
  | 0 => 0
  | 1 => 1
  | n + 2 => -sg n
theorem cs_next : ∀ n, cg (n + 1) = -sg n ∧ sg (n + 1) = cg n
  | 0 => by simp [cg, sg]
  | 1 => by simp [cg, sg]
  | n + 2 => by
    obtain ⟨a, b⟩ := cs_next n
    have e1 : cg (n + 2 + 1) = -cg (n + 1) := rfl
    have e2 : sg (n + 2 + 1) = -sg (n + 1) := rfl
    have e3 : cg (n + 2) = -cg n := rfl
    have e4 : sg (n + 2) = -sg n := rfl
    rw [e1, e2, e3, e4, a, b]
    exact ⟨rfl, rfl⟩
theorem cs_add (m : Nat) : ∀ k, cg (m + k) = cg m * cg k - sg m * sg k ∧ sg (m + k) = sg m * cg k + cg m * sg k
  | 0 => by simp only [Nat.add_zero, cg, sg]; constructor <;> grind
  | k + 1 => by
    obtain ⟨a, b⟩ := cs_add m k
    obtain ⟨c, d⟩ := cs_next (m + k)
    obtain ⟨e, f⟩ := cs_next k
    rw [show m + (k + 1) = m + k + 1 by omega, c, d, e, f, a, b]
    constructor <;> grind
theorem cs_one : ∀ n, (cg n = 0 ∧ (sg n = 1 ∨ sg n = -1)) ∨ (sg n = 0 ∧ (cg n = 1 ∨ cg n = -1))
  | 0 => by simp [cg, sg]
  | 1 => by simp [cg, sg]
  | n + 2 => by
    have e3 : cg (n + 2) = -cg n := rfl
    have e4 : sg (n + 2) = -sg n := rfl
    rw [e3, e4]
    rcases cs_one n with ⟨a, b | b⟩ | ⟨a, b | b⟩ <;> rw [a, b] <;> simp

/-- The rows of a cosine, a sine, a power, so many terms. -/
def co (N : Nat) (x : Rat) : Rat := sm (fun n => cg n * pw x n) N
def si (N : Nat) (x : Rat) : Rat := sm (fun n => sg n * pw x n) N
def ex (N : Nat) (x : Rat) : Rat := sm (fun n => pw x n) N

theorem ex_sum (N : Nat) (x y : Rat) : ex N (x + y) = sm (fun m => pw x m * ex (N - m) y) N := by
  have h := sm_tri (fun m j => pw x m * pw y j) N
  have e : ex N (x + y) = sm (fun n => sm (fun m => pw x m * pw y (n - m)) (n + 1)) N := by
    unfold ex
    apply sm_congr
    intro i _
    exact (pw_sum x y i).symm
  rw [e, h]
  apply sm_congr
  intro i _
  rw [sm_mul]
  rfl
theorem co_sum (N : Nat) (x y : Rat) : co N (x + y) = sm (fun m => pw x m * (cg m * co (N - m) y - sg m * si (N - m) y)) N := by
  have h := sm_tri (fun m j => (cg m * cg j - sg m * sg j) * (pw x m * pw y j)) N
  have e : co N (x + y) = sm (fun n => sm (fun m => (cg m * cg (n - m) - sg m * sg (n - m)) * (pw x m * pw y (n - m))) (n + 1)) N := by
    unfold co
    apply sm_congr
    intro i _
    rw [← pw_sum x y i, ← sm_mul]
    apply sm_congr
    intro m hm
    rw [← (cs_add m (i - m)).1, show m + (i - m) = i by omega]
  rw [e, h]
  apply sm_congr
  intro i _
  have e2 : sm (fun j => (cg i * cg j - sg i * sg j) * (pw x i * pw y j)) (N - i) = sm (fun j => pw x i * (cg i * (cg j * pw y j)) - pw x i * (sg i * (sg j * pw y j))) (N - i) := by
    apply sm_congr
    intro j _
    grind
  rw [e2, sm_sub, sm_mul, sm_mul, sm_mul, sm_mul]
  unfold co si
  grind
theorem si_sum (N : Nat) (x y : Rat) : si N (x + y) = sm (fun m => pw x m * (sg m * co (N - m) y + cg m * si (N - m) y)) N := by
  have h := sm_tri (fun m j => (sg m * cg j + cg m * sg j) * (pw x m * pw y j)) N
  have e : si N (x + y) = sm (fun n => sm (fun m => (sg m * cg (n - m) + cg m * sg (n - m)) * (pw x m * pw y (n - m))) (n + 1)) N := by
    unfold si
    apply sm_congr
    intro i _
    rw [← pw_sum x y i, ← sm_mul]
    apply sm_congr
    intro m hm
    rw [← (cs_add m (i - m)).2, show m + (i - m) = i by omega]
  rw [e, h]
  apply sm_congr
  intro i _
  have e2 : sm (fun j => (sg i * cg j + cg i * sg j) * (pw x i * pw y j)) (N - i) = sm (fun j => pw x i * (sg i * (cg j * pw y j)) + pw x i * (cg i * (sg j * pw y j))) (N - i) := by
    apply sm_congr
    intro j _
    grind
  rw [e2, sm_add, sm_mul, sm_mul, sm_mul, sm_mul]
  unfold co si
  grind
end Go.Proofs.Ythopiolbnhjgnaa
