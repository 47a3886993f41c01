/- Plain numbers as decimal digits, the lowest first. -/
import Derived.Test.YthopiolbnhjgnaaProg
namespace Go.Proofs.Ythopiolbnhjgnaa

/-- What digits are worth. -/
def val : List Int → Int
  | [] => 0
  | d :: r => d + 10 * val r
def Digs (l : List Int) : Prop := ∀ d ∈ l, 0 ≤ d ∧ d ≤ 9
/-- The digits of a number, without noughts behind. -/
def dg (n : Nat) : List Int := if h : n = 0 then [] else ((n % 10 : Nat) : Int) :: dg (n / 10)
termination_by n
decreasing_by omega

theorem dg_zero : dg 0 = [] := by rw [dg]; simp
theorem dg_pos (n : Nat) (h : n ≠ 0) : dg n = ((n % 10 : Nat) : Int) :: dg (n / 10) := by rw [dg]; simp [h]

theorem val_append (a b : List Int) : val (a ++ b) = val a + 10 ^ a.length * val b := by
  induction a with
  | nil => simp [val]
  | cons d r ih =>
    simp only [List.cons_append, val, ih, List.length_cons, Int.pow_succ]
    rw [Int.mul_add, Int.mul_comm (10 ^ r.length) 10, Int.mul_assoc]
    omega
theorem val_nn {l : List Int} (h : Digs l) : 0 ≤ val l := by
  induction l with
  | nil => simp [val]
  | cons d r ih =>
    have := ih (fun x hx => h x (List.mem_cons_of_mem _ hx))
    have := h d (List.mem_cons_self ..)
    simp only [val]; omega
theorem val_dg (n : Nat) : val (dg n) = n := by
  induction n using Nat.strongRecOn with
  | _ n ih =>
    by_cases h : n = 0
    · subst h; rw [dg_zero]; rfl
    · rw [dg_pos n h, val, ih (n / 10) (by omega)]; omega
theorem digs_dg (n : Nat) : Digs (dg n) := by
  induction n using Nat.strongRecOn with
  | _ n ih =>
    by_cases h : n = 0
    · subst h; rw [dg_zero]; intro d hd; cases hd
    · rw [dg_pos n h]
      intro d hd
      rcases List.mem_cons.1 hd with rfl | hd
      · omega
      · exact ih (n / 10) (by omega) d hd
theorem dg_len (k : Nat) : ∀ n : Nat, n < 10 ^ k → (dg n).length ≤ k := by
  induction k with
  | zero => intro n h; have : n = 0 := by simp at h; exact h
            subst this; rw [dg_zero]; simp
  | succ k ih =>
    intro n h
    by_cases h0 : n = 0
    · subst h0; rw [dg_zero]; simp
    · rw [dg_pos n h0, List.length_cons]
      have := ih (n / 10) (by rw [Nat.pow_succ] at h; omega)
      omega
/-- Digits of a number's worth, of which the last one is no nought, are its digits. -/
theorem dg_of (l : List Int) (h : Digs l) (hl : l = [] ∨ ∃ d r, l = r ++ [d] ∧ d ≠ 0) : l = dg (val l).toNat := by
  induction l with
  | nil => simp [val, dg_zero]
  | cons d r ih =>
    have hr : Digs r := fun x hx => h x (List.mem_cons_of_mem _ hx)
    have hd := h d (List.mem_cons_self ..)
    have hv := val_nn hr
    have hr2 : r = [] ∨ ∃ d r', r = r' ++ [d] ∧ d ≠ 0 := by
      rcases hl with hl | ⟨e, r', he, hne⟩
      · cases hl
      · cases r' with
        | nil =>
          simp at he
          exact Or.inl he.2
        | cons x r' =>
          simp at he
          exact Or.inr ⟨e, r', he.2, hne⟩
    have ih := ih hr hr2
    have hne : (d + 10 * val r).toNat ≠ 0 := by
      intro h0
      have hz : d = 0 ∧ val r = 0 := by omega
      rcases hl with hl | ⟨e, r', he, hne⟩
      · cases hl
      · cases hrr : r with
        | nil =>
          rw [hrr] at he
          cases r' with
          | nil => simp at he; omega
          | cons x r' => simp at he
        | cons x y =>
          rw [hz.2] at ih
          rw [show (0 : Int).toNat = 0 from rfl, dg_zero] at ih
          rw [ih] at hrr
          cases hrr
    simp only [val]
    rw [dg_pos _ hne]
    have e1 : (((d + 10 * val r).toNat % 10 : Nat) : Int) = d := by omega
    have e2 : (d + 10 * val r).toNat / 10 = (val r).toNat := by omega
    rw [e1, e2, ← ih]

theorem val_take (l : List Int) (k : Nat) (h : ∀ i, k ≤ i → ∀ (hi : i < l.length), l[i] = 0) : val (l.take k) = val l := by
  induction l generalizing k with
  | nil => simp
  | cons d r ih =>
    cases k with
    | zero =>
      have hd := h 0 (Nat.le_refl _) (by simp)
      simp at hd
      have := ih 0 (fun i _ hi => by have := h (i + 1) (Nat.zero_le _) (by simpa using hi); simpa using this)
      simp only [List.take_zero, val] at this ⊢
      omega
    | succ k =>
      have := ih k (fun i hk hi => by have := h (i + 1) (by omega) (by simpa using hi); simpa using this)
      simp only [List.take_succ_cons, val, this]

/-- What is left of digits without the noughts behind. -/
theorem trim_is (l : List Int) (hl : Digs l) (k : Nat) (hk : k ≤ l.length) (h : ∀ i, k ≤ i → ∀ (hi : i < l.length), l[i] = 0) (hz : k = 0 ∨ ∃ hi : k - 1 < l.length, l[k - 1] ≠ 0) :
    l.take k = dg (val l).toNat ∧ (dg (val l).toNat).length = k := by
  have e : l.take k = dg (val (l.take k)).toNat := by
    apply dg_of
    · intro d hd; exact hl d (List.mem_of_mem_take hd)
    · rcases hz with rfl | ⟨hi, hne⟩
      · left; simp
      · by_cases hk0 : k = 0
        · left; subst hk0; simp
        · right
          refine ⟨l[k - 1], l.take (k - 1), ?_, hne⟩
          have := List.take_succ_eq_append_getElem hi
          rw [show k - 1 + 1 = k by omega] at this
          exact this
  rw [val_take l k h] at e
  refine ⟨e, ?_⟩
  rw [← e, List.length_take]
  omega

/-- Sizes of numbers, by how many digits they have. -/
theorem dg_lt_of_len (m n : Nat) (h : (dg m).length < (dg n).length) : m < n := by
  by_cases hlt : m < n
  · exact hlt
  · exfalso
    have : ∀ a b : Nat, a ≤ b → (dg a).length ≤ (dg b).length := by
      intro a
      induction a using Nat.strongRecOn with
      | _ a ih =>
        intro b hb
        by_cases ha : a = 0
        · subst ha; rw [dg_zero]; simp
        · rw [dg_pos a ha, dg_pos b (by omega), List.length_cons, List.length_cons]
          have := ih (a / 10) (by omega) (b / 10) (by omega)
          omega
    have := this n m (by omega)
    omega

theorem digs_nil : Digs [] := fun _ hd => nomatch hd
theorem vt_succ (l : List Int) (j : Nat) (h : j < l.length) : val (l.take (j + 1)) = val (l.take j) + 10 ^ j * l[j] := by
  rw [List.take_succ_eq_append_getElem h, val_append, List.length_take, Nat.min_eq_left (by omega)]
  simp [val]
theorem vt_ge (l : List Int) (j : Nat) (h : l.length ≤ j) : val (l.take j) = val l := by rw [List.take_of_length_le h]
theorem val_snoc (l : List Int) (d : Int) : val (l ++ [d]) = val l + 10 ^ l.length * d := by rw [val_append]; simp [val]
theorem Digs.snoc {l : List Int} {d : Int} (h : Digs l) (h0 : 0 ≤ d) (h1 : d ≤ 9) : Digs (l ++ [d]) := by
  intro x hx
  rcases List.mem_append.1 hx with hx | hx
  · exact h x hx
  · simp at hx; omega
theorem Digs.at {l : List Int} (h : Digs l) (i : Nat) (hi : i < l.length) : 0 ≤ l[i] ∧ l[i] ≤ 9 := h _ (List.getElem_mem hi)

/-- The digits of a sum, so far: j of them, and what is carried. -/
def PlusAt (xs ys ds : List Int) (j : Nat) (c : Int) : Prop := ds.length = j ∧ Digs ds ∧ 0 ≤ c ∧ c ≤ 1 ∧ val ds + 10 ^ j * c = val (xs.take j) + val (ys.take j)
theorem PlusAt.zero (xs ys : List Int) : PlusAt xs ys [] 0 0 := by
  refine ⟨rfl, digs_nil, by decide, by decide, by simp [val]⟩
theorem plus_arith (v p c e : Int) : v + p * ((c + e) % 10) + p * 10 * ((c + e) / 10) = v + p * c + p * e := by
  have h : (c + e) % 10 + 10 * ((c + e) / 10) = c + e := by omega
  have : p * ((c + e) % 10) + p * 10 * ((c + e) / 10) = p * (c + e) := by
    rw [Int.mul_assoc, ← Int.mul_add, h]
  rw [Int.mul_add] at this
  omega
theorem PlusAt.step {xs ys ds : List Int} {j : Nat} {c : Int} (h : PlusAt xs ys ds j c) (e : Int) (e0 : 0 ≤ e) (e1 : e ≤ 18)
    (he : val (xs.take (j + 1)) + val (ys.take (j + 1)) = val (xs.take j) + val (ys.take j) + 10 ^ j * e) : PlusAt xs ys (ds ++ [(c + e) % 10]) (j + 1) ((c + e) / 10) := by
  obtain ⟨a, b, c0, c1, d⟩ := h
  refine ⟨by rw [List.length_append, a]; rfl, b.snoc (by omega) (by omega), by omega, by omega, ?_⟩
  rw [val_snoc, a, he, ← d, Int.pow_succ, plus_arith]
theorem plus_e2 {xs ys : List Int} (j : Nat) (hx : j < xs.length) (hy : j < ys.length) : val (xs.take (j + 1)) + val (ys.take (j + 1)) = val (xs.take j) + val (ys.take j) + 10 ^ j * (xs[j] + ys[j]) := by
  rw [vt_succ _ _ hx, vt_succ _ _ hy, Int.mul_add]; omega
theorem plus_ex {xs ys : List Int} (j : Nat) (hx : j < xs.length) (hy : ys.length ≤ j) : val (xs.take (j + 1)) + val (ys.take (j + 1)) = val (xs.take j) + val (ys.take j) + 10 ^ j * xs[j] := by
  rw [vt_succ _ _ hx, vt_ge _ _ hy, vt_ge ys (j + 1) (by omega)]; omega
theorem plus_ey {xs ys : List Int} (j : Nat) (hx : xs.length ≤ j) (hy : j < ys.length) : val (xs.take (j + 1)) + val (ys.take (j + 1)) = val (xs.take j) + val (ys.take j) + 10 ^ j * ys[j] := by
  rw [vt_succ _ _ hy, vt_ge _ _ hx, vt_ge xs (j + 1) (by omega)]; omega
theorem PlusAt.fin {xs ys ds : List Int} {j : Nat} {c : Int} (h : PlusAt xs ys ds j c) (hx : xs.length ≤ j) (hy : ys.length ≤ j) : Digs (ds ++ [c]) ∧ val (ds ++ [c]) = val xs + val ys := by
  obtain ⟨a, b, c0, c1, d⟩ := h
  refine ⟨b.snoc c0 (by omega), ?_⟩
  rw [val_snoc, a, d, vt_ge _ _ hx, vt_ge _ _ hy]

/-- The digits of a difference, so far. -/
def MinusAt (xs ys ds : List Int) (j : Nat) (c : Int) : Prop := ds.length = j ∧ Digs ds ∧ 0 ≤ c ∧ c ≤ 1 ∧ val ds + val (ys.take j) = val (xs.take j) + 10 ^ j * c
theorem MinusAt.zero (xs ys : List Int) : MinusAt xs ys [] 0 0 := by
  refine ⟨rfl, digs_nil, by decide, by decide, by simp [val]⟩
theorem MinusAt.step {xs ys ds : List Int} {j : Nat} {c : Int} (h : MinusAt xs ys ds j c) (x y d k : Int) (hd0 : 0 ≤ d) (hd1 : d ≤ 9) (hk0 : 0 ≤ k) (hk1 : k ≤ 1) (hd : d + c + y = x + 10 * k)
    (hx : val (xs.take (j + 1)) = val (xs.take j) + 10 ^ j * x) (hy : val (ys.take (j + 1)) = val (ys.take j) + 10 ^ j * y) : MinusAt xs ys (ds ++ [d]) (j + 1) k := by
  obtain ⟨a, b, c0, c1, e⟩ := h
  refine ⟨by rw [List.length_append, a]; rfl, b.snoc hd0 hd1, hk0, hk1, ?_⟩
  rw [val_snoc, a, hx, hy, Int.pow_succ]
  have h2 : (10 : Int) ^ j * (d + c + y) = 10 ^ j * (x + 10 * k) := by rw [hd]
  simp only [Int.mul_add] at h2
  rw [← Int.mul_assoc] at h2
  omega
theorem val_lt {l : List Int} (h : Digs l) : val l < 10 ^ l.length := by
  induction l with
  | nil => simp [val]
  | cons d r ih =>
    have := ih (fun x hx => h x (List.mem_cons_of_mem _ hx))
    have := h d (List.mem_cons_self ..)
    simp only [val, List.length_cons, Int.pow_succ]
    omega
theorem MinusAt.fin {xs ys ds : List Int} {j : Nat} {c : Int} (h : MinusAt xs ys ds j c) (hx : xs.length = j) (hy : ys.length ≤ j) (hle : val ys ≤ val xs) : val ds = val xs - val ys := by
  obtain ⟨a, b, c0, c1, e⟩ := h
  rw [vt_ge ys j hy, vt_ge xs j (by omega)] at e
  have h1 := val_lt b
  rw [a] at h1
  have h0 := val_nn b
  rcases (show c = 0 ∨ c = 1 by omega) with rfl | rfl
  · simp at e; omega
  · simp at e; omega

theorem val_split (l : List Int) (k : Nat) (h : k ≤ l.length) : val l = val (l.take k) + 10 ^ k * val (l.drop k) := by
  conv => lhs; rw [← List.take_append_drop k l]
  rw [val_append, List.length_take, Nat.min_eq_left h]
theorem digit_less {xs ys : List Int} (hx : Digs xs) (hy : Digs ys) (k : Nat) (kx : k < xs.length) (ky : k < ys.length) (hd : xs.drop (k + 1) = ys.drop (k + 1)) (h : xs[k] < ys[k]) : val xs < val ys := by
  rw [val_split xs (k + 1) (by omega), val_split ys (k + 1) (by omega), hd, vt_succ _ _ kx, vt_succ _ _ ky]
  have h1 : val (xs.take k) < 10 ^ k := by
    have := val_lt (l := xs.take k) (fun d hd => hx d (List.mem_of_mem_take hd))
    rw [List.length_take, Nat.min_eq_left (by omega)] at this
    exact this
  have h2 : 0 ≤ val (ys.take k) := val_nn (fun d hd => hy d (List.mem_of_mem_take hd))
  have h3 : (10 : Int) ^ k * (xs[k] + 1) ≤ 10 ^ k * ys[k] := Int.mul_le_mul_of_nonneg_left (by omega) (Int.le_of_lt (Int.pow_pos (by decide)))
  rw [Int.mul_add, Int.mul_one] at h3
  omega
theorem drop_step {xs ys : List Int} (k : Nat) (kx : k < xs.length) (ky : k < ys.length) (hd : xs.drop (k + 1) = ys.drop (k + 1)) (h : xs[k] = ys[k]) : xs.drop k = ys.drop k := by
  rw [List.drop_eq_getElem_cons kx, List.drop_eq_getElem_cons ky, hd, h]
theorem dg_inj {m n : Nat} (h : dg m = dg n) : m = n := by
  have h1 := val_dg m
  have h2 := val_dg n
  rw [h] at h1
  omega
theorem dg_less_len (m n : Nat) (h : (dg m).length ≠ (dg n).length) : ((dg m).length < (dg n).length) ↔ m < n := by
  constructor
  · exact dg_lt_of_len m n
  · intro hlt
    by_cases h2 : (dg m).length < (dg n).length
    · exact h2
    · have := dg_lt_of_len n m (by omega)
      omega

theorem dg_mono : ∀ a b : Nat, a ≤ b → (dg a).length ≤ (dg b).length := by
  intro a
  induction a using Nat.strongRecOn with
  | _ a ih =>
    intro b hb
    by_cases ha : a = 0
    · subst ha; rw [dg_zero]; simp
    · rw [dg_pos a ha, dg_pos b (by omega), List.length_cons, List.length_cons]
      have := ih (a / 10) (by omega) (b / 10) (by omega)
      omega
theorem dg_bd (n : Nat) : n < 10 ^ (dg n).length := by
  have h := val_lt (digs_dg n)
  rw [val_dg] at h
  exact_mod_cast h
theorem plus_len (m n L : Nat) (hm : (dg m).length ≤ L) (hn : (dg n).length ≤ L) : (dg (m + n)).length ≤ L + 1 := by
  apply dg_len
  have h1 := Nat.lt_of_lt_of_le (dg_bd m) (Nat.pow_le_pow_right (by decide) hm)
  have h2 := Nat.lt_of_lt_of_le (dg_bd n) (Nat.pow_le_pow_right (by decide) hn)
  rw [Nat.pow_succ]
  omega
theorem minus_len (m n L : Nat) (hm : (dg m).length ≤ L) : (dg (m - n)).length ≤ L := Nat.le_trans (dg_mono _ _ (Nat.sub_le _ _)) hm
theorem mul_len (m n L K : Nat) (hm : (dg m).length ≤ L) (hn : (dg n).length ≤ K) : (dg (m * n)).length ≤ L + K := by
  apply dg_len
  have h1 := Nat.lt_of_lt_of_le (dg_bd m) (Nat.pow_le_pow_right (by decide) hm)
  have h2 := Nat.lt_of_lt_of_le (dg_bd n) (Nat.pow_le_pow_right (by decide) hn)
  rw [Nat.pow_add]
  exact Nat.mul_lt_mul'' h1 h2

end Go.Proofs.Ythopiolbnhjgnaa
