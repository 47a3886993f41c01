/- Wide numbers of the reference: the quotient, walked. -/
import Derived.Test.YthopiolbnhjgnaaWfront
set_option linter.unusedSimpArgs false
set_option linter.unusedVariables false
set_option maxRecDepth 20000
namespace Go.Proofs.Ythopiolbnhjgnaa
open Go.RowKit



theorem val_drop (l : List Int) (i : Nat) (h : i < l.length) : val (l.drop i) = l[i] + 10 * val (l.drop (i + 1)) := by
  rw [List.drop_eq_getElem_cons h]
  rfl
def DivIn (xs : List Int) (b : Nat) (i : Nat) (qs : List Int) (r : Nat) : Prop :=
  qs.length = xs.length ∧ Digs qs ∧ (∀ m, m < i → ∀ h : m < qs.length, qs[m] = 0) ∧ val (xs.drop i) = val (qs.drop i) * b + r ∧ val (xs.drop i) < (10 * val (qs.drop (i + 1)) + 10) * b
def DivOut (xs : List Int) (b : Nat) (k : Nat) (qs : List Int) (r : Nat) : Prop :=
  qs.length = xs.length ∧ Digs qs ∧ (∀ m, m < k → ∀ h : m < qs.length, qs[m] = 0) ∧ val (xs.drop k) = val (qs.drop k) * b + r ∧ r < b
theorem DivOut.start (xs : List Int) (b : Nat) (hb : 0 < b) : DivOut xs b xs.length (List.replicate xs.length 0) 0 := by
  refine ⟨by simp, ?_, fun m _ h => by simp, ?_, hb⟩
  · intro e he
    rw [List.mem_replicate] at he
    omega
  · simp [val]
theorem DivOut.inn {xs : List Int} {b k : Nat} {qs : List Int} {r : Nat} (h : DivOut xs b k qs r) (hk : 0 < k) (hx : k - 1 < xs.length) (hd : Digs xs) : DivIn xs b (k - 1) qs (xs[k - 1] + 10 * (r : Int)).toNat := by
  obtain ⟨h1, h2, h3, h4, h5⟩ := h
  have e : k - 1 + 1 = k := by omega
  obtain ⟨d0, d1⟩ := hd.at (k - 1) hx
  have v1 := val_drop xs (k - 1) hx
  have v2 := val_drop qs (k - 1) (by omega)
  rw [h3 (k - 1) (by omega) (by omega)] at v2
  rw [e] at v1 v2
  have hr : ((xs[k - 1] + 10 * (r : Int)).toNat : Int) = xs[k - 1] + 10 * r := Int.toNat_of_nonneg (by omega)
  refine ⟨h1, h2, fun m hm => h3 m (by omega), ?_, ?_⟩
  · rw [hr, v1, v2, h4, Int.zero_add, Int.mul_assoc]
    omega
  · rw [v1, e, h4, Int.add_mul, Int.mul_assoc]
    omega
theorem DivIn.out {xs : List Int} {b i : Nat} {qs : List Int} {r : Nat} (h : DivIn xs b i qs r) (hr : r < b) : DivOut xs b i qs r := by
  obtain ⟨h1, h2, h3, h4, h5⟩ := h
  exact ⟨h1, h2, h3, h4, hr⟩
theorem DivIn.small {xs : List Int} {b i : Nat} {qs : List Int} {r : Nat} (h : DivIn xs b i qs r) (hr : b ≤ r) (hi : i < qs.length) : qs[i] + 1 ≤ 9 := by
  obtain ⟨h1, h2, h3, h4, h5⟩ := h
  rw [h4, val_drop qs i hi] at h5
  have h6 : (qs[i] + 10 * val (qs.drop (i + 1)) + 1) * (b : Int) < (10 * val (qs.drop (i + 1)) + 10) * b := by
    rw [Int.add_mul _ 1]
    omega
  have := Int.lt_of_mul_lt_mul_right h6 (by omega)
  omega
theorem DivIn.step {xs : List Int} {b i : Nat} {qs : List Int} {r : Nat} (h : DivIn xs b i qs r) (hr : b ≤ r) (hi : i < qs.length) : DivIn xs b i (qs.set i (qs[i] + 1)) (r - b) := by
  have hs := h.small hr hi
  obtain ⟨h1, h2, h3, h4, h5⟩ := h
  obtain ⟨d0, d1⟩ := h2.at i hi
  have hd : (qs.set i (qs[i] + 1)).drop (i + 1) = qs.drop (i + 1) := by rw [List.drop_set]; simp
  have v1 := val_drop (qs.set i (qs[i] + 1)) i (by simpa using hi)
  have v2 := val_drop qs i hi
  rw [hd, List.getElem_set_self] at v1
  refine ⟨by simpa using h1, h2.set i _ (by omega) hs, ?_, ?_, by rw [hd]; exact h5⟩
  · intro m hm hl
    rw [List.getElem_set_ne (by omega)]
    exact h3 m hm (by simpa using hl)
  · rw [h4, v1, v2]
    have : ((r - b : Nat) : Int) = (r : Int) - b := by omega
    rw [this, show qs[i] + 1 + 10 * val (qs.drop (i + 1)) = qs[i] + 10 * val (qs.drop (i + 1)) + 1 by omega, Int.add_mul _ 1]
    omega
theorem DivIn.less {xs : List Int} {b i : Nat} {qs : List Int} {r : Nat} (h : DivIn xs b i qs r) (hi : i < qs.length) (hb : 0 < b) : r < 10 * b := by
  obtain ⟨h1, h2, h3, h4, h5⟩ := h
  obtain ⟨d0, d1⟩ := h2.at i hi
  rw [h4, val_drop qs i hi] at h5
  have h6 : 0 ≤ qs[i] * (b : Int) := Int.mul_nonneg d0 (by omega)
  rw [Int.add_mul, Int.add_mul] at h5
  omega
theorem DivOut.fin {xs : List Int} {b : Nat} {qs : List Int} {r : Nat} (h : DivOut xs b 0 qs r) : (val xs).toNat / b = (val qs).toNat ∧ (val xs).toNat % b = r ∧ Digs qs ∧ qs.length = xs.length := by
  obtain ⟨h1, h2, h3, h4, h5⟩ := h
  have q0 := val_nn h2
  rw [List.drop_zero, List.drop_zero] at h4
  have e : (val xs).toNat = b * (val qs).toNat + r := by
    have : ((val qs).toNat : Int) = val qs := Int.toNat_of_nonneg q0
    have h6 : val xs = ((b * (val qs).toNat + r : Nat) : Int) := by
      rw [h4, Int.natCast_add, Int.natCast_mul, this, Int.mul_comm]
    rw [h6, Int.toNat_natCast]
  refine ⟨?_, ?_, h2, h1⟩
  · rw [e, Nat.mul_add_div (by omega), Nat.div_eq_of_lt h5, Nat.add_zero]
  · rw [e, Nat.mul_add_mod, Nat.mod_eq_of_lt h5]

theorem Blk.new4 (w : World) (o o2 o3 o4 : Obj) (cs : Array Value) (T : TypeId) : Blk (((((w.alloc o).alloc o2).alloc o3).alloc o4).alloc (.cells cs T)) (w.heap.size + 1 + 1 + 1 + 1) cs := by
  have h := Blk.new3 (w.alloc o) o2 o3 o4 cs T
  rwa [World.size_alloc] at h
theorem Blk.newAt (w : World) (cs : Array Value) (T : TypeId) (n : Nat) (h : w.heap.size = n) : Blk (w.alloc (.cells cs T)) n cs := by
  subst h
  exact Blk.new w cs T
theorem numN (A1 : Option Addr) (k1 n : Nat) (w' : World) (hl : (dg n).length ≤ 1000000) :
    Calls Try.prog 25 #[.bool false, .slice A1 (dg n).length k1] w' fun e w1 => e = .returned (.agg #[.bool false, .slice A1 (dg n).length k1]) ∧ Below w'.heap.size w' w1 := by
  have h := num_dg false A1 k1 n (n : Int) w' (by simp) (by simp) hl
  have e : decide ((n : Int) < 0) = false := decide_eq_false (by omega)
  rw [e, Int.natAbs_natCast] at h
  exact h
theorem numM (A1 : Option Addr) (k1 n : Nat) (w' : World) (hl : (dg n).length ≤ 1000000) :
    Calls Try.prog 25 #[.bool true, .slice A1 (dg n).length k1] w' fun e w1 => e = .returned (.agg #[.bool (decide (0 < n)), .slice A1 (dg n).length k1]) ∧ Below w'.heap.size w' w1 := by
  have h := num_dg true A1 k1 n (-(n : Int)) w' (by omega) (by by_cases h0 : n = 0 <;> simp [h0]; omega) hl
  have e : decide (-(n : Int) < 0) = decide (0 < n) := by rw [decide_eq_decide]; omega
  have e2 : (-(n : Int)).natAbs = n := by omega
  rw [e, e2] at h
  exact h
theorem one_of (w : World) : Calls Try.prog 12 #[.int .i64 (1)] w fun e w' => ∃ A c, e = .returned (.agg #[.bool false, .slice A (dg 1).length c]) ∧ SlD w' A c (dg 1) ∧ Below w.heap.size w w' := by
  refine (wOf_any 1 w (by unfold I64; omega)).mono ?_
  rintro e w' ⟨A, c, rfl, hc, hD, hb⟩
  refine ⟨A, c, rfl, ⟨hc, ?_, hD, digs_dg _⟩, hb⟩
  have := dg_len 1 1 (by decide)
  omega
theorem sub_one (q : Nat) (A B : Option Addr) (c d : Nat) (w : World) (ha : SlD w A c (dg q)) (hb : SlD w B d (dg 1)) (hl : (dg q).length ≤ 90000) :
    Calls Try.prog 16 #[.agg #[.bool (decide (0 < q)), .slice A (dg q).length c], .agg #[.bool false, .slice B (dg 1).length d]] w fun e w' =>
      ∃ A c, e = .returned (.agg #[.bool true, .slice A (dg (q + 1)).length c]) ∧ (dg (q + 1)).length ≤ c ∧ Dg w' A (dg (q + 1)) ∧ Below w.heap.size w w' := by
  have l1 := dg_len 1 1 (by decide)
  have e2 : (-(q : Int)).natAbs = q := by omega
  have h := wSub_any (-(q : Int)) 1 A B c d w (by unfold SlN; rw [e2]; exact ha) hb (by rw [e2]; exact hl) (by show (dg 1).length ≤ 90000; omega)
  have e : decide (-(q : Int) < 0) = decide (0 < q) := by rw [decide_eq_decide]; omega
  rw [e, e2] at h
  refine h.mono ?_
  rintro e w' ⟨A, c, rfl, hc, hD, hb⟩
  have e3 : (-(q : Int) - 1).natAbs = q + 1 := by omega
  have e4 : decide (-(q : Int) - 1 < 0) = true := decide_eq_true (by omega)
  rw [e3] at hc hD
  exact ⟨A, c, by rw [e3, e4], hc, hD, hb⟩
/-- A quotient cut down, and its rest, of a size and its sign. -/
def Qz (sg : Bool) (q r : Nat) : Int := if sg then (if r = 0 then -(q : Int) else -(q : Int) - 1) else q
def Rz (sg : Bool) (r b : Nat) : Int := if sg then (if r = 0 then 0 else (b : Int) - r) else r
/-- A quotient and a rest behind a result. -/
def DivRet (z1 z2 : Int) (w : World) (e : Ending) (w' : World) : Prop := ∃ A1 k1 A2 k2, e = .returned (.tuple #[.agg #[.bool (decide (z1 < 0)), .slice (A1) (dg (z1).natAbs).length (k1)], .agg #[.bool (decide (z2 < 0)), .slice (A2) (dg (z2).natAbs).length (k2)]]) ∧ SlN w' A1 k1 z1 ∧ SlN w' A2 k2 z2 ∧ Below w.heap.size w w'
theorem DivRet.mk {z1 z2 : Int} {w w' : World} {b1 b2 : Bool} {n1 n2 : Nat} {A1 A2 : Option Addr} {k1 k2 : Nat} (h1 : z1.natAbs = n1) (s1 : decide (z1 < 0) = b1) (h2 : z2.natAbs = n2) (s2 : decide (z2 < 0) = b2)
    (c1 : (dg n1).length ≤ k1) (l1 : (dg n1).length ≤ 100000) (d1 : Dg w' A1 (dg n1)) (c2 : (dg n2).length ≤ k2) (l2 : (dg n2).length ≤ 100000) (d2 : Dg w' A2 (dg n2)) (hb : Below w.heap.size w w') :
    DivRet z1 z2 w (.returned (.tuple #[.agg #[.bool b1, .slice A1 (dg n1).length k1], .agg #[.bool b2, .slice A2 (dg n2).length k2]])) w' := by
  subst h1 s1 h2 s2
  exact ⟨A1, k1, A2, k2, rfl, ⟨c1, l1, d1, digs_dg _⟩, ⟨c2, l2, d2, digs_dg _⟩, hb⟩
theorem Dg.drew {w : World} {A : Option Addr} {xs : List Int} (h : Dg w A xs) : Dg w.drew A xs := h
set_option maxHeartbeats 6000000 in
theorem wDiv_plain (sg : Bool) (xs : List Int) (b : Nat) (A B : Option Addr) (c d : Nat) (w : World) (ha : SlD w A c xs) (hb : SlD w B d (dg b)) (hl : xs.length ≤ 40000) (hl2 : (dg b).length ≤ 40000) (hb0 : 0 < b) :
    Calls Try.prog 28 #[.agg #[.bool sg, .slice A xs.length c], .agg #[.bool false, .slice B (dg b).length d]] w (DivRet (Qz sg ((val xs).toNat / b) ((val xs).toNat % b)) (Rz sg ((val xs).toNat % b) b) w) := by
  obtain ⟨i0, hi0, hz0, hz1, hz2⟩ := info_parts info_int
  obtain ⟨ha1, ha2, ha3, ha4⟩ := ha
  have HA := Lib.hid ha3
  have HB := Lib.hid hb
  have DA := Lib.hid ha4
  have hmk : ∀ w : World, (Instr.makeSlice 26 (.int .i64 ((xs.length : Int))) (.int .i64 ((xs.length : Int)))).run Try.prog w = .ok (.slice (some ⟨w.heap.size, 0, none⟩) xs.length xs.length) (w.alloc (.cells (cells (List.replicate xs.length 0)) 3)) := fun w => by
    have h := run_make_row (P := Try.prog) 26 3 i0 (.int .i64 0) rfl hi0 hz0 hz1 rfl .i64 .i64 xs.length (by rw [hz2]; omega) (by omega) w
    rw [cells_made] at h
    exact h
  clear ha3 hb ha4
  go_enter Try.func28, Try.ntmps28
  go_wp2
  go_loopw [6, 8] (fun rv iv wr => ∃ (k r : Nat) (qs : List Int) (A2 : Option Addr) (k2 : Nat), iv = .int .i64 ((k : Int) - 1) ∧ rv = .slice A2 (dg r).length k2 ∧ k ≤ xs.length ∧ (dg r).length ≤ k2 ∧ Dg wr A2 (dg r) ∧ (∀ g o, A2 = some ⟨g, o, none⟩ → (w.heap.size + 1 + 1 + 1 + 1) < g) ∧ DivOut xs b k qs r ∧ Blk wr w.heap.size #[.bool sg, .slice A xs.length c] ∧ Blk wr (w.heap.size + 1) #[.bool false, .slice B (dg b).length d] ∧ (∃ u1, Blk wr (w.heap.size + 1 + 1) #[.bool u1, .slice none 0 0]) ∧ (∃ u2, Blk wr (w.heap.size + 1 + 1 + 1) #[.bool u2, .slice none 0 0]) ∧ Blk wr (w.heap.size + 1 + 1 + 1 + 1) (cells qs) ∧ Below w.heap.size w wr) (fun _ iv _ => (intOf iv + 1).toNat)
  case atStart =>
    refine ⟨xs.length, 0, List.replicate xs.length 0, none, 0, rfl, by rw [dg_zero]; rfl, Nat.le_refl _, by rw [dg_zero]; exact Nat.le_refl _, by rw [dg_zero]; exact Dg.nil _ _, (fun g o h => by cases h), DivOut.start xs b hb0, (by repeat (first | with_reducible assumption | with_reducible exact Blk.new _ _ _ | with_reducible exact Blk.new1 _ _ _ _ | with_reducible exact Blk.new2 _ _ _ _ _ | with_reducible exact Blk.new3 _ _ _ _ _ _ | with_reducible refine Blk.drew ?_ | with_reducible refine Blk.alloc ?_ _ | with_reducible refine Blk.drewN ?_ _ | with_reducible apply Blk.put2 | with_reducible apply Blk.put3 | with_reducible apply Blk.put5 | (with_reducible refine Blk.far ?_ ?_ _; rotate_left; (first | omega | (simp <;> omega))) | with_reducible refine Blk.below ?_ (by with_reducible assumption))), (by repeat (first | with_reducible assumption | with_reducible exact Blk.new _ _ _ | with_reducible exact Blk.new1 _ _ _ _ | with_reducible exact Blk.new2 _ _ _ _ _ | with_reducible exact Blk.new3 _ _ _ _ _ _ | with_reducible refine Blk.drew ?_ | with_reducible refine Blk.alloc ?_ _ | with_reducible refine Blk.drewN ?_ _ | with_reducible apply Blk.put2 | with_reducible apply Blk.put3 | with_reducible apply Blk.put5 | (with_reducible refine Blk.far ?_ ?_ _; rotate_left; (first | omega | (simp <;> omega))) | with_reducible refine Blk.below ?_ (by with_reducible assumption))), ⟨false, (by repeat (first | with_reducible assumption | with_reducible exact Blk.new _ _ _ | with_reducible exact Blk.new1 _ _ _ _ | with_reducible exact Blk.new2 _ _ _ _ _ | with_reducible exact Blk.new3 _ _ _ _ _ _ | with_reducible refine Blk.drew ?_ | with_reducible refine Blk.alloc ?_ _ | with_reducible refine Blk.drewN ?_ _ | with_reducible apply Blk.put2 | with_reducible apply Blk.put3 | with_reducible apply Blk.put5 | (with_reducible refine Blk.far ?_ ?_ _; rotate_left; (first | omega | (simp <;> omega))) | with_reducible refine Blk.below ?_ (by with_reducible assumption)))⟩, ⟨false, (by repeat (first | with_reducible assumption | with_reducible exact Blk.new _ _ _ | with_reducible exact Blk.new1 _ _ _ _ | with_reducible exact Blk.new2 _ _ _ _ _ | with_reducible exact Blk.new3 _ _ _ _ _ _ | with_reducible refine Blk.drew ?_ | with_reducible refine Blk.alloc ?_ _ | with_reducible refine Blk.drewN ?_ _ | with_reducible apply Blk.put2 | with_reducible apply Blk.put3 | with_reducible apply Blk.put5 | (with_reducible refine Blk.far ?_ ?_ _; rotate_left; (first | omega | (simp <;> omega))) | with_reducible refine Blk.below ?_ (by with_reducible assumption)))⟩, ?_, (by repeat (first | with_reducible exact Below.refl _ _ | with_reducible refine Below.drew ?_ | with_reducible refine below_alloc ?_ _ | (with_reducible refine below_set ?_ ?_ _; rotate_left; (first | omega | (simp <;> omega))) | with_reducible refine below_drewN ?_ _ | with_reducible refine below_tr ?_ (by with_reducible assumption)))⟩
    exact Blk.new4 _ _ _ _ _ _ _
  case round =>
    obtain ⟨k, r, qs, A2, k2, rfl, rfl, hk, hrk, hD, hA2, DO, KX, KY, ⟨u1, KR⟩, ⟨u2, KS⟩, KQ, hbw⟩ := hrel
    have z1 := hbw.size
    (try simp at z1)
    have hrl : (dg r).length ≤ 40000 := Nat.le_trans (dg_mono _ _ (Nat.le_of_lt DO.2.2.2.2)) hl2
    have cx := Blk.cell KX; have fx := Blk.frozen KX; have lcx := Blk.lt KX
    have cy := Blk.cell KY; have fy := Blk.frozen KY; have lcy := Blk.lt KY
    have cr := Blk.cell KR; have fr := Blk.frozen KR; have lcr := Blk.lt KR
    have cs := Blk.cell KS; have fs := Blk.frozen KS; have lcs := Blk.lt KS
    by_cases h0 : k = 0
    · subst h0
      obtain ⟨F1, F2, F3, F4⟩ := DO.fin
      have rb := DO.2.2.2.2
      have F := Lib.hid (And.intro F1 F2)
      have HD := Lib.hid hD
      have HQ := Lib.hid F3
      clear F1 F2 DO hD
      have hqk := dg_len_of _ F3
      have TR := Lib.hid (fun w' (hw : Blk w' (w.heap.size + 1 + 1 + 1 + 1) (cells qs)) => wtrim_n (some ⟨(w.heap.size + 1 + 1 + 1 + 1), 0, none⟩) xs.length xs.length qs w' F4 (by omega) (by omega) (Dg.of_blk hw qs (fun i h => cells_at qs i h)) F3)
      have HT := Lib.hid (fun w' (hw : Blk w' (w.heap.size + 1 + 1 + 1 + 1) (cells qs)) => Dg.trim (Dg.of_blk hw qs (fun i h => cells_at qs i h)) F3)
      clear F3
      obtain ⟨q, hq⟩ : ∃ q, q = (val qs).toNat := ⟨_, rfl⟩
      rw [← hq] at hqk TR HT F
      clear hq
      have N2 := Lib.hid (fun A1 k1 w' => numN A1 k1 r w' (by omega))
      cases sg
      · have N1 := Lib.hid (fun A1 k1 w' => numN A1 k1 q w' (by omega))
        go_upto_region 10 with fail
        go_cut [9] (fun p w' => ∃ g, p = .pointer (some ⟨g, 0, none⟩) ∧ Blk w' g #[.bool false, .slice (some ⟨(w.heap.size + 1 + 1 + 1 + 1), 0, none⟩) (dg q).length xs.length] ∧ Below wr.heap.size wr w' ∧ wr.heap.size ≤ g)
        case first =>
          go_wp2_with fail
          go_region_held3 (fun w' => w'.cell? ⟨w.heap.size, 0, none⟩ = some (.bool false) ∧ w'.cell? ⟨w.heap.size + 1, 0, none⟩ = some (.bool false)) (first | (go_keep; done) | (exact ⟨(Blk.cell (cs := #[.bool false, .slice A xs.length c]) (by repeat (first | with_reducible assumption | with_reducible exact Blk.new _ _ _ | with_reducible exact Blk.new1 _ _ _ _ | with_reducible exact Blk.new2 _ _ _ _ _ | with_reducible exact Blk.new3 _ _ _ _ _ _ | with_reducible refine Blk.drew ?_ | with_reducible refine Blk.alloc ?_ _ | with_reducible refine Blk.drewN ?_ _ | with_reducible apply Blk.put2 | with_reducible apply Blk.put3 | with_reducible apply Blk.put5 | (with_reducible refine Blk.far ?_ ?_ _; rotate_left; (first | omega | (simp <;> omega))) | with_reducible refine Blk.below ?_ (by with_reducible assumption))) 0).trans rfl, (Blk.cell (cs := #[.bool false, .slice B (dg b).length d]) (by repeat (first | with_reducible assumption | with_reducible exact Blk.new _ _ _ | with_reducible exact Blk.new1 _ _ _ _ | with_reducible exact Blk.new2 _ _ _ _ _ | with_reducible exact Blk.new3 _ _ _ _ _ _ | with_reducible refine Blk.drew ?_ | with_reducible refine Blk.alloc ?_ _ | with_reducible refine Blk.drewN ?_ _ | with_reducible apply Blk.put2 | with_reducible apply Blk.put3 | with_reducible apply Blk.put5 | (with_reducible refine Blk.far ?_ ?_ _; rotate_left; (first | omega | (simp <;> omega))) | with_reducible refine Blk.below ?_ (by with_reducible assumption))) 0).trans rfl⟩)) (first
            | (go_at_call 26; refine (TR.out _ (by repeat (first | with_reducible assumption | with_reducible exact Blk.new _ _ _ | with_reducible exact Blk.new1 _ _ _ _ | with_reducible exact Blk.new2 _ _ _ _ _ | with_reducible exact Blk.new3 _ _ _ _ _ _ | with_reducible refine Blk.drew ?_ | with_reducible refine Blk.alloc ?_ _ | with_reducible refine Blk.drewN ?_ _ | with_reducible apply Blk.put2 | with_reducible apply Blk.put3 | with_reducible apply Blk.put5 | (with_reducible refine Blk.far ?_ ?_ _; rotate_left; (first | omega | (simp <;> omega))) | with_reducible refine Blk.below ?_ (by with_reducible assumption)))).mono ?_; rintro e w1 ⟨rfl, rfl⟩)
            | (go_at_call 25; refine (N1.out _ _ _).mono ?_; rintro e w2 ⟨rfl, hb2⟩; have z2 := hb2.size; (try simp at z2); (try (have K9 : Blk w2 wr.heap.size #[.bool false, .slice none 0 0] := Blk.below (by first | exact Blk.new _ _ _ | exact Blk.drew (Blk.new _ _ _) | exact Blk.drewN (Blk.new _ _ _) _ | fail) hb2; have c9 := Blk.cell K9; have f9 := Blk.frozen K9; have lc9 := Blk.lt K9))))
          all_goals go_wp2_with fail
          all_goals go_meet
          all_goals (first | (have lw := z2; exact ⟨_, rfl, (by repeat (first | with_reducible assumption | with_reducible exact Blk.new _ _ _ | with_reducible exact Blk.new1 _ _ _ _ | with_reducible exact Blk.new2 _ _ _ _ _ | with_reducible exact Blk.new3 _ _ _ _ _ _ | with_reducible refine Blk.drew ?_ | with_reducible refine Blk.alloc ?_ _ | with_reducible refine Blk.drewN ?_ _ | with_reducible apply Blk.put2 | with_reducible apply Blk.put3 | with_reducible apply Blk.put5 | (with_reducible refine Blk.far ?_ ?_ _; rotate_left; (first | omega | (simp <;> omega))) | with_reducible refine Blk.below ?_ (by with_reducible assumption))), (by repeat (first | with_reducible exact Below.refl _ _ | with_reducible refine Below.drew ?_ | with_reducible refine below_alloc ?_ _ | (with_reducible refine below_set ?_ ?_ _; rotate_left; (first | omega | (simp <;> omega))) | with_reducible refine below_drewN ?_ _ | with_reducible refine below_tr ?_ (by with_reducible assumption))), by omega⟩) | exact ⟨_, rfl, Blk.put2 K9 _ _, (by repeat (first | with_reducible exact Below.refl _ _ | with_reducible refine Below.drew ?_ | with_reducible refine below_alloc ?_ _ | (with_reducible refine below_set ?_ ?_ _; rotate_left; (first | omega | (simp <;> omega))) | with_reducible refine below_drewN ?_ _ | with_reducible refine below_tr ?_ (by with_reducible assumption))), Nat.le_refl _⟩)
        obtain ⟨g9, rfl, K9, hb9, hg9⟩ := hcut
        have z9 := hb9.size
        have lg9 := K9.lt
        replace KX := KX.below hb9
        replace KY := KY.below hb9
        replace KR := KR.below hb9
        replace KS := KS.below hb9
        replace KQ := KQ.below hb9
        replace HD := Lib.hid (HD.out.below hb9)
        replace hbw := below_tr hbw hb9
        clear cx fx cy fy cr fr cs fs hb9
        have cx := Blk.cell KX; have fx := Blk.frozen KX; have lcx := Blk.lt KX
        go_upto_region 12 with (go_at_call 25; refine (N2.out _ _ _).mono ?_; rintro e w3 ⟨rfl, hb3⟩; have z3 := hb3.size; (try simp at z3); have KX3 := KX.below hb3; have KY3 := KY.below hb3; have K93 := K9.below hb3; have KR3 := KR.below hb3; have KS3 := KS.below hb3; have KQ3 := KQ.below hb3; have HD3 := Lib.hid (HD.out.below hb3); have cx3 := Blk.cell KX3; have fx3 := Blk.frozen KX3; have lcx3 := Blk.lt KX3; have c93 := Blk.cell K93; have f93 := Blk.frozen K93; have lc93 := Blk.lt K93; have cr3 := Blk.cell KR3; have fr3 := Blk.frozen KR3; have lcr3 := Blk.lt KR3; have cs3 := Blk.cell KS3; have fs3 := Blk.frozen KS3; have lcs3 := Blk.lt KS3)
        clear cx fx
        go_wp2
        go_region_held3 (fun w' => w'.cell? ⟨g9, 0, none⟩ = some (.bool false) ∧ w'.cell? ⟨g9, 1, none⟩ = some (.slice (some ⟨(w.heap.size + 1 + 1 + 1 + 1), 0, none⟩) (dg (q)).length xs.length) ∧ w'.cell? ⟨w3.heap.size, 0, none⟩ = some (.bool false) ∧ w'.cell? ⟨w3.heap.size, 1, none⟩ = some (.slice A2 (dg (r)).length k2)) (first | (go_keep; done) | (exact ⟨(Blk.cell (cs := #[.bool false, .slice (some ⟨(w.heap.size + 1 + 1 + 1 + 1), 0, none⟩) (dg (q)).length xs.length]) (by repeat (first | with_reducible assumption | (with_reducible refine Blk.newAt _ _ _ _ ?_; (first | rfl | (simp; done))) | with_reducible refine Blk.drew ?_ | with_reducible refine Blk.alloc ?_ _ | with_reducible refine Blk.drewN ?_ _ | with_reducible apply Blk.put2 | (with_reducible refine Blk.far ?_ ?_ _; rotate_left; (first | omega | (simp <;> omega))) | with_reducible refine Blk.below ?_ (by with_reducible assumption))) 0).trans rfl, (Blk.cell (cs := #[.bool false, .slice (some ⟨(w.heap.size + 1 + 1 + 1 + 1), 0, none⟩) (dg (q)).length xs.length]) (by repeat (first | with_reducible assumption | (with_reducible refine Blk.newAt _ _ _ _ ?_; (first | rfl | (simp; done))) | with_reducible refine Blk.drew ?_ | with_reducible refine Blk.alloc ?_ _ | with_reducible refine Blk.drewN ?_ _ | with_reducible apply Blk.put2 | (with_reducible refine Blk.far ?_ ?_ _; rotate_left; (first | omega | (simp <;> omega))) | with_reducible refine Blk.below ?_ (by with_reducible assumption))) 1).trans rfl, (Blk.cell (cs := #[.bool false, .slice A2 (dg (r)).length k2]) (by repeat (first | with_reducible assumption | (with_reducible refine Blk.newAt _ _ _ _ ?_; (first | rfl | (simp; done))) | with_reducible refine Blk.drew ?_ | with_reducible refine Blk.alloc ?_ _ | with_reducible refine Blk.drewN ?_ _ | with_reducible apply Blk.put2 | (with_reducible refine Blk.far ?_ ?_ _; rotate_left; (first | omega | (simp <;> omega))) | with_reducible refine Blk.below ?_ (by with_reducible assumption))) 0).trans rfl, (Blk.cell (cs := #[.bool false, .slice A2 (dg (r)).length k2]) (by repeat (first | with_reducible assumption | (with_reducible refine Blk.newAt _ _ _ _ ?_; (first | rfl | (simp; done))) | with_reducible refine Blk.drew ?_ | with_reducible refine Blk.alloc ?_ _ | with_reducible refine Blk.drewN ?_ _ | with_reducible apply Blk.put2 | (with_reducible refine Blk.far ?_ ?_ _; rotate_left; (first | omega | (simp <;> omega))) | with_reducible refine Blk.below ?_ (by with_reducible assumption))) 1).trans rfl⟩)) (fail)
        go_wp2
        refine bodyPost_ret (v := .tuple #[.agg #[.bool false, .slice (some ⟨(w.heap.size + 1 + 1 + 1 + 1), 0, none⟩) (dg (q)).length xs.length], .agg #[.bool false, .slice A2 (dg (r)).length k2]]) (by simp [results, Try.results28, go_sem, cr3, cs3, lcr3, lcs3, World.cell?_alloc_lt]) rfl ?_
        rw [F.out.1, F.out.2]
        exact DivRet.mk (by simp [Qz]) (by simp [Qz]) (by simp [Rz]) (by simp [Rz]) (by omega) (by omega) (HT.out _ (by repeat (first | with_reducible assumption | (with_reducible refine Blk.newAt _ _ _ _ ?_; (first | rfl | (simp; done))) | with_reducible refine Blk.drew ?_ | with_reducible refine Blk.alloc ?_ _ | with_reducible refine Blk.drewN ?_ _ | with_reducible apply Blk.put2 | (with_reducible refine Blk.far ?_ ?_ _; rotate_left; (first | omega | (simp <;> omega))) | with_reducible refine Blk.below ?_ (by with_reducible assumption)))) hrk (by omega) (by have h := HD3.out; exact (by repeat (first | with_reducible assumption | with_reducible refine Dg.drew ?_ | with_reducible refine Dg.alloc ?_ _ | (with_reducible refine Dg.set ?_ (fun b o e => by have := hA2 b o e; omega) _ _)))) (by repeat (first | with_reducible exact Below.refl _ _ | with_reducible refine Below.drew ?_ | with_reducible refine below_alloc ?_ _ | (with_reducible refine below_set ?_ ?_ _; rotate_left; (first | omega | (simp <;> omega))) | with_reducible refine below_drewN ?_ _ | with_reducible refine below_tr ?_ (by with_reducible assumption)))
      · have N1 := Lib.hid (fun A1 k1 w' => numM A1 k1 q w' (by omega))
        by_cases r0 : r = 0
        · have d0 : decide (0 < (dg r).length) = false := by rw [r0, dg_zero]; rfl
          have d1 := Lib.hid r0
          clear r0
          go_upto_region 10 with fail
          go_cut [9] (fun p w' => ∃ g, p = .pointer (some ⟨g, 0, none⟩) ∧ Blk w' g #[.bool (decide (0 < q)), .slice (some ⟨(w.heap.size + 1 + 1 + 1 + 1), 0, none⟩) (dg q).length xs.length] ∧ Below wr.heap.size wr w' ∧ wr.heap.size ≤ g)
          case first =>
            go_wp2_with fail
            go_region_held3 (fun w' => w'.cell? ⟨w.heap.size, 0, none⟩ = some (.bool true) ∧ w'.cell? ⟨w.heap.size + 1, 0, none⟩ = some (.bool false)) (first | (go_keep; done) | (exact ⟨(Blk.cell (cs := #[.bool true, .slice A xs.length c]) (by repeat (first | with_reducible assumption | with_reducible exact Blk.new _ _ _ | with_reducible exact Blk.new1 _ _ _ _ | with_reducible exact Blk.new2 _ _ _ _ _ | with_reducible exact Blk.new3 _ _ _ _ _ _ | with_reducible refine Blk.drew ?_ | with_reducible refine Blk.alloc ?_ _ | with_reducible refine Blk.drewN ?_ _ | with_reducible apply Blk.put2 | with_reducible apply Blk.put3 | with_reducible apply Blk.put5 | (with_reducible refine Blk.far ?_ ?_ _; rotate_left; (first | omega | (simp <;> omega))) | with_reducible refine Blk.below ?_ (by with_reducible assumption))) 0).trans rfl, (Blk.cell (cs := #[.bool false, .slice B (dg b).length d]) (by repeat (first | with_reducible assumption | with_reducible exact Blk.new _ _ _ | with_reducible exact Blk.new1 _ _ _ _ | with_reducible exact Blk.new2 _ _ _ _ _ | with_reducible exact Blk.new3 _ _ _ _ _ _ | with_reducible refine Blk.drew ?_ | with_reducible refine Blk.alloc ?_ _ | with_reducible refine Blk.drewN ?_ _ | with_reducible apply Blk.put2 | with_reducible apply Blk.put3 | with_reducible apply Blk.put5 | (with_reducible refine Blk.far ?_ ?_ _; rotate_left; (first | omega | (simp <;> omega))) | with_reducible refine Blk.below ?_ (by with_reducible assumption))) 0).trans rfl⟩)) (first
              | (go_at_call 26; refine (TR.out _ (by repeat (first | with_reducible assumption | with_reducible exact Blk.new _ _ _ | with_reducible exact Blk.new1 _ _ _ _ | with_reducible exact Blk.new2 _ _ _ _ _ | with_reducible exact Blk.new3 _ _ _ _ _ _ | with_reducible refine Blk.drew ?_ | with_reducible refine Blk.alloc ?_ _ | with_reducible refine Blk.drewN ?_ _ | with_reducible apply Blk.put2 | with_reducible apply Blk.put3 | with_reducible apply Blk.put5 | (with_reducible refine Blk.far ?_ ?_ _; rotate_left; (first | omega | (simp <;> omega))) | with_reducible refine Blk.below ?_ (by with_reducible assumption)))).mono ?_; rintro e w1 ⟨rfl, rfl⟩)
              | (go_at_call 25; refine (N1.out _ _ _).mono ?_; rintro e w2 ⟨rfl, hb2⟩; have z2 := hb2.size; (try simp at z2); (try (have K9 : Blk w2 wr.heap.size #[.bool false, .slice none 0 0] := Blk.below (by first | exact Blk.new _ _ _ | exact Blk.drew (Blk.new _ _ _) | exact Blk.drewN (Blk.new _ _ _) _ | fail) hb2; have c9 := Blk.cell K9; have f9 := Blk.frozen K9; have lc9 := Blk.lt K9))))
            all_goals go_wp2_with fail
            all_goals go_meet
            all_goals (first | (have lw := z2; exact ⟨_, rfl, (by repeat (first | with_reducible assumption | with_reducible exact Blk.new _ _ _ | with_reducible exact Blk.new1 _ _ _ _ | with_reducible exact Blk.new2 _ _ _ _ _ | with_reducible exact Blk.new3 _ _ _ _ _ _ | with_reducible refine Blk.drew ?_ | with_reducible refine Blk.alloc ?_ _ | with_reducible refine Blk.drewN ?_ _ | with_reducible apply Blk.put2 | with_reducible apply Blk.put3 | with_reducible apply Blk.put5 | (with_reducible refine Blk.far ?_ ?_ _; rotate_left; (first | omega | (simp <;> omega))) | with_reducible refine Blk.below ?_ (by with_reducible assumption))), (by repeat (first | with_reducible exact Below.refl _ _ | with_reducible refine Below.drew ?_ | with_reducible refine below_alloc ?_ _ | (with_reducible refine below_set ?_ ?_ _; rotate_left; (first | omega | (simp <;> omega))) | with_reducible refine below_drewN ?_ _ | with_reducible refine below_tr ?_ (by with_reducible assumption))), by omega⟩) | exact ⟨_, rfl, Blk.put2 K9 _ _, (by repeat (first | with_reducible exact Below.refl _ _ | with_reducible refine Below.drew ?_ | with_reducible refine below_alloc ?_ _ | (with_reducible refine below_set ?_ ?_ _; rotate_left; (first | omega | (simp <;> omega))) | with_reducible refine below_drewN ?_ _ | with_reducible refine below_tr ?_ (by with_reducible assumption))), Nat.le_refl _⟩)
          obtain ⟨g9, rfl, K9, hb9, hg9⟩ := hcut
          have z9 := hb9.size
          have lg9 := K9.lt
          replace KX := KX.below hb9
          replace KY := KY.below hb9
          replace KR := KR.below hb9
          replace KS := KS.below hb9
          replace KQ := KQ.below hb9
          replace HD := Lib.hid (HD.out.below hb9)
          replace hbw := below_tr hbw hb9
          clear cx fx cy fy cr fr cs fs hb9
          have cx := Blk.cell KX; have fx := Blk.frozen KX; have lcx := Blk.lt KX
          go_upto_region 12 with (go_at_call 25; refine (N2.out _ _ _).mono ?_; rintro e w3 ⟨rfl, hb3⟩; have z3 := hb3.size; (try simp at z3); have KX3 := KX.below hb3; have KY3 := KY.below hb3; have K93 := K9.below hb3; have KR3 := KR.below hb3; have KS3 := KS.below hb3; have KQ3 := KQ.below hb3; have HD3 := Lib.hid (HD.out.below hb3); have cx3 := Blk.cell KX3; have fx3 := Blk.frozen KX3; have lcx3 := Blk.lt KX3; have c93 := Blk.cell K93; have f93 := Blk.frozen K93; have lc93 := Blk.lt K93; have cr3 := Blk.cell KR3; have fr3 := Blk.frozen KR3; have lcr3 := Blk.lt KR3; have cs3 := Blk.cell KS3; have fs3 := Blk.frozen KS3; have lcs3 := Blk.lt KS3)
          clear cx fx
          go_wp2
          go_region_held3 (fun w' => w'.cell? ⟨g9, 0, none⟩ = some (.bool (decide (0 < q))) ∧ w'.cell? ⟨g9, 1, none⟩ = some (.slice (some ⟨(w.heap.size + 1 + 1 + 1 + 1), 0, none⟩) (dg (q)).length xs.length) ∧ w'.cell? ⟨w3.heap.size, 0, none⟩ = some (.bool false) ∧ w'.cell? ⟨w3.heap.size, 1, none⟩ = some (.slice A2 (dg (r)).length k2)) (first | (go_keep; done) | (exact ⟨(Blk.cell (cs := #[.bool (decide (0 < q)), .slice (some ⟨(w.heap.size + 1 + 1 + 1 + 1), 0, none⟩) (dg (q)).length xs.length]) (by repeat (first | with_reducible assumption | (with_reducible refine Blk.newAt _ _ _ _ ?_; (first | rfl | (simp; done))) | with_reducible refine Blk.drew ?_ | with_reducible refine Blk.alloc ?_ _ | with_reducible refine Blk.drewN ?_ _ | with_reducible apply Blk.put2 | (with_reducible refine Blk.far ?_ ?_ _; rotate_left; (first | omega | (simp <;> omega))) | with_reducible refine Blk.below ?_ (by with_reducible assumption))) 0).trans rfl, (Blk.cell (cs := #[.bool (decide (0 < q)), .slice (some ⟨(w.heap.size + 1 + 1 + 1 + 1), 0, none⟩) (dg (q)).length xs.length]) (by repeat (first | with_reducible assumption | (with_reducible refine Blk.newAt _ _ _ _ ?_; (first | rfl | (simp; done))) | with_reducible refine Blk.drew ?_ | with_reducible refine Blk.alloc ?_ _ | with_reducible refine Blk.drewN ?_ _ | with_reducible apply Blk.put2 | (with_reducible refine Blk.far ?_ ?_ _; rotate_left; (first | omega | (simp <;> omega))) | with_reducible refine Blk.below ?_ (by with_reducible assumption))) 1).trans rfl, (Blk.cell (cs := #[.bool false, .slice A2 (dg (r)).length k2]) (by repeat (first | with_reducible assumption | (with_reducible refine Blk.newAt _ _ _ _ ?_; (first | rfl | (simp; done))) | with_reducible refine Blk.drew ?_ | with_reducible refine Blk.alloc ?_ _ | with_reducible refine Blk.drewN ?_ _ | with_reducible apply Blk.put2 | (with_reducible refine Blk.far ?_ ?_ _; rotate_left; (first | omega | (simp <;> omega))) | with_reducible refine Blk.below ?_ (by with_reducible assumption))) 0).trans rfl, (Blk.cell (cs := #[.bool false, .slice A2 (dg (r)).length k2]) (by repeat (first | with_reducible assumption | (with_reducible refine Blk.newAt _ _ _ _ ?_; (first | rfl | (simp; done))) | with_reducible refine Blk.drew ?_ | with_reducible refine Blk.alloc ?_ _ | with_reducible refine Blk.drewN ?_ _ | with_reducible apply Blk.put2 | (with_reducible refine Blk.far ?_ ?_ _; rotate_left; (first | omega | (simp <;> omega))) | with_reducible refine Blk.below ?_ (by with_reducible assumption))) 1).trans rfl⟩)) (fail)
          go_wp2
          refine bodyPost_ret (v := .tuple #[.agg #[.bool (decide (0 < q)), .slice (some ⟨(w.heap.size + 1 + 1 + 1 + 1), 0, none⟩) (dg (q)).length xs.length], .agg #[.bool false, .slice A2 (dg (r)).length k2]]) (by simp [results, Try.results28, go_sem, cr3, cs3, lcr3, lcs3, World.cell?_alloc_lt]) rfl ?_
          rw [F.out.1, F.out.2]
          have r0 := d1.out
          exact DivRet.mk (by simp [Qz, r0]) (by simp [Qz, r0]) (by simp [Rz, r0]) (by simp [Rz, r0]) (by omega) (by omega) (HT.out _ (by repeat (first | with_reducible assumption | (with_reducible refine Blk.newAt _ _ _ _ ?_; (first | rfl | (simp; done))) | with_reducible refine Blk.drew ?_ | with_reducible refine Blk.alloc ?_ _ | with_reducible refine Blk.drewN ?_ _ | with_reducible apply Blk.put2 | (with_reducible refine Blk.far ?_ ?_ _; rotate_left; (first | omega | (simp <;> omega))) | with_reducible refine Blk.below ?_ (by with_reducible assumption)))) hrk (by omega) (by have h := HD3.out; exact (by repeat (first | with_reducible assumption | with_reducible refine Dg.drew ?_ | with_reducible refine Dg.alloc ?_ _ | (with_reducible refine Dg.set ?_ (fun b o e => by have := hA2 b o e; omega) _ _)))) (by repeat (first | with_reducible exact Below.refl _ _ | with_reducible refine Below.drew ?_ | with_reducible refine below_alloc ?_ _ | (with_reducible refine below_set ?_ ?_ _; rotate_left; (first | omega | (simp <;> omega))) | with_reducible refine below_drewN ?_ _ | with_reducible refine below_tr ?_ (by with_reducible assumption)))
        · have d0 : decide (0 < (dg r).length) = true := by rw [dg_pos r r0]; simp
          have lm := minus_len b r 40000 hl2
          have lq1 := plus_len q 1 90000 (by omega) (by have := dg_len 1 1 (by decide); omega)
          have MN := Lib.hid (fun w' (hY : SlD w' B d (dg b)) (hD : Dg w' A2 (dg r)) => minus_dgf B A2 d k2 b r w' hY ⟨hrk, by omega, hD, digs_dg r⟩ (by omega))
          have N3 := Lib.hid (fun A1 k1 w' => numN A1 k1 (b - r) w' (by omega))
          have OS := Lib.hid (fun A1 c1 w' (hA : Dg w' (some ⟨(w.heap.size + 1 + 1 + 1 + 1), 0, none⟩) (dg q)) (hB : SlD w' A1 c1 (dg 1)) => sub_one q (some ⟨(w.heap.size + 1 + 1 + 1 + 1), 0, none⟩) A1 xs.length c1 w' ⟨by omega, by omega, hA, digs_dg q⟩ hB (by omega))
          have d1 := Lib.hid r0
          clear r0
          go_upto_region 10 with fail
          go_cut [9] (fun p w' => ∃ g, p = .pointer (some ⟨g, 0, none⟩) ∧ Blk w' g #[.bool (decide (0 < q)), .slice (some ⟨(w.heap.size + 1 + 1 + 1 + 1), 0, none⟩) (dg q).length xs.length] ∧ Below wr.heap.size wr w' ∧ wr.heap.size ≤ g)
          case first =>
            go_wp2_with fail
            go_region_held3 (fun w' => w'.cell? ⟨w.heap.size, 0, none⟩ = some (.bool true) ∧ w'.cell? ⟨w.heap.size + 1, 0, none⟩ = some (.bool false)) (first | (go_keep; done) | (exact ⟨(Blk.cell (cs := #[.bool true, .slice A xs.length c]) (by repeat (first | with_reducible assumption | with_reducible exact Blk.new _ _ _ | with_reducible exact Blk.new1 _ _ _ _ | with_reducible exact Blk.new2 _ _ _ _ _ | with_reducible exact Blk.new3 _ _ _ _ _ _ | with_reducible refine Blk.drew ?_ | with_reducible refine Blk.alloc ?_ _ | with_reducible refine Blk.drewN ?_ _ | with_reducible apply Blk.put2 | with_reducible apply Blk.put3 | with_reducible apply Blk.put5 | (with_reducible refine Blk.far ?_ ?_ _; rotate_left; (first | omega | (simp <;> omega))) | with_reducible refine Blk.below ?_ (by with_reducible assumption))) 0).trans rfl, (Blk.cell (cs := #[.bool false, .slice B (dg b).length d]) (by repeat (first | with_reducible assumption | with_reducible exact Blk.new _ _ _ | with_reducible exact Blk.new1 _ _ _ _ | with_reducible exact Blk.new2 _ _ _ _ _ | with_reducible exact Blk.new3 _ _ _ _ _ _ | with_reducible refine Blk.drew ?_ | with_reducible refine Blk.alloc ?_ _ | with_reducible refine Blk.drewN ?_ _ | with_reducible apply Blk.put2 | with_reducible apply Blk.put3 | with_reducible apply Blk.put5 | (with_reducible refine Blk.far ?_ ?_ _; rotate_left; (first | omega | (simp <;> omega))) | with_reducible refine Blk.below ?_ (by with_reducible assumption))) 0).trans rfl⟩)) (first
              | (go_at_call 26; refine (TR.out _ (by repeat (first | with_reducible assumption | with_reducible exact Blk.new _ _ _ | with_reducible exact Blk.new1 _ _ _ _ | with_reducible exact Blk.new2 _ _ _ _ _ | with_reducible exact Blk.new3 _ _ _ _ _ _ | with_reducible refine Blk.drew ?_ | with_reducible refine Blk.alloc ?_ _ | with_reducible refine Blk.drewN ?_ _ | with_reducible apply Blk.put2 | with_reducible apply Blk.put3 | with_reducible apply Blk.put5 | (with_reducible refine Blk.far ?_ ?_ _; rotate_left; (first | omega | (simp <;> omega))) | with_reducible refine Blk.below ?_ (by with_reducible assumption)))).mono ?_; rintro e w1 ⟨rfl, rfl⟩)
              | (go_at_call 25; refine (N1.out _ _ _).mono ?_; rintro e w2 ⟨rfl, hb2⟩; have z2 := hb2.size; (try simp at z2); (try (have K9 : Blk w2 wr.heap.size #[.bool false, .slice none 0 0] := Blk.below (by first | exact Blk.new _ _ _ | exact Blk.drew (Blk.new _ _ _) | exact Blk.drewN (Blk.new _ _ _) _ | fail) hb2; have c9 := Blk.cell K9; have f9 := Blk.frozen K9; have lc9 := Blk.lt K9))))
            all_goals go_wp2_with fail
            all_goals go_meet
            all_goals (first | (have lw := z2; exact ⟨_, rfl, (by repeat (first | with_reducible assumption | with_reducible exact Blk.new _ _ _ | with_reducible exact Blk.new1 _ _ _ _ | with_reducible exact Blk.new2 _ _ _ _ _ | with_reducible exact Blk.new3 _ _ _ _ _ _ | with_reducible refine Blk.drew ?_ | with_reducible refine Blk.alloc ?_ _ | with_reducible refine Blk.drewN ?_ _ | with_reducible apply Blk.put2 | with_reducible apply Blk.put3 | with_reducible apply Blk.put5 | (with_reducible refine Blk.far ?_ ?_ _; rotate_left; (first | omega | (simp <;> omega))) | with_reducible refine Blk.below ?_ (by with_reducible assumption))), (by repeat (first | with_reducible exact Below.refl _ _ | with_reducible refine Below.drew ?_ | with_reducible refine below_alloc ?_ _ | (with_reducible refine below_set ?_ ?_ _; rotate_left; (first | omega | (simp <;> omega))) | with_reducible refine below_drewN ?_ _ | with_reducible refine below_tr ?_ (by with_reducible assumption))), by omega⟩) | exact ⟨_, rfl, Blk.put2 K9 _ _, (by repeat (first | with_reducible exact Below.refl _ _ | with_reducible refine Below.drew ?_ | with_reducible refine below_alloc ?_ _ | (with_reducible refine below_set ?_ ?_ _; rotate_left; (first | omega | (simp <;> omega))) | with_reducible refine below_drewN ?_ _ | with_reducible refine below_tr ?_ (by with_reducible assumption))), Nat.le_refl _⟩)
          obtain ⟨g9, rfl, K9, hb9, hg9⟩ := hcut
          have z9 := hb9.size
          have lg9 := K9.lt
          replace KX := KX.below hb9
          replace KY := KY.below hb9
          replace KR := KR.below hb9
          replace KS := KS.below hb9
          replace KQ := KQ.below hb9
          replace HD := Lib.hid (HD.out.below hb9)
          replace hbw := below_tr hbw hb9
          clear cx fx cy fy cr fr cs fs hb9
          have cx := Blk.cell KX; have fx := Blk.frozen KX; have lcx := Blk.lt KX
          go_upto_region 12 with (go_at_call 25; refine (N2.out _ _ _).mono ?_; rintro e w3 ⟨rfl, hb3⟩; have z3 := hb3.size; (try simp at z3); have KX3 := KX.below hb3; have KY3 := KY.below hb3; have K93 := K9.below hb3; have KR3 := KR.below hb3; have KS3 := KS.below hb3; have KQ3 := KQ.below hb3; have HD3 := Lib.hid (HD.out.below hb3); have cx3 := Blk.cell KX3; have fx3 := Blk.frozen KX3; have lcx3 := Blk.lt KX3; have c93 := Blk.cell K93; have f93 := Blk.frozen K93; have lc93 := Blk.lt K93; have cr3 := Blk.cell KR3; have fr3 := Blk.frozen KR3; have lcr3 := Blk.lt KR3; have cs3 := Blk.cell KS3; have fs3 := Blk.frozen KS3; have lcs3 := Blk.lt KS3)
          clear cx fx
          go_upto_region 13 with fail
          go_cut [10] (fun p wx => p = .pointer (some ⟨w3.heap.size, 0, none⟩) ∧ ∃ A5 k5, Blk wx w3.heap.size #[.bool false, .slice A5 (dg (b - r)).length k5] ∧ (dg (b - r)).length ≤ k5 ∧ Dg wx A5 (dg (b - r)) ∧ Blk wx (w.heap.size + 1) #[.bool false, .slice B (dg b).length d] ∧ Blk wx g9 #[.bool (decide (0 < q)), .slice (some ⟨(w.heap.size + 1 + 1 + 1 + 1), 0, none⟩) (dg q).length xs.length] ∧ Blk wx (w.heap.size + 1 + 1) #[.bool u1, .slice none 0 0] ∧ Blk wx (w.heap.size + 1 + 1 + 1) #[.bool u2, .slice none 0 0] ∧ Blk wx (w.heap.size + 1 + 1 + 1 + 1) (cells qs) ∧ Below w.heap.size w wx)
          case first =>
            have ly3 := KY3.lt
            have lq3 := KQ3.lt
            have cy3 := Blk.cell KY3; have fy3 := Blk.frozen KY3; have lcy3 := Blk.lt KY3
            go_wp2_with (first
              | (go_at_call 30; refine (MN.out _ (HB.out.below (by repeat (first | with_reducible exact Below.refl _ _ | with_reducible refine Below.drew ?_ | with_reducible refine below_alloc ?_ _ | (with_reducible refine below_set ?_ ?_ _; rotate_left; (first | omega | (simp <;> omega))) | with_reducible refine below_drewN ?_ _ | with_reducible refine below_tr ?_ (by with_reducible assumption)))) (by have h := HD3.out; exact (by repeat (first | with_reducible assumption | with_reducible refine Dg.drew ?_ | with_reducible refine Dg.alloc ?_ _ | (with_reducible refine Dg.set ?_ (fun b o e => by have := hA2 b o e; omega) _ _))))).mono ?_; rintro e w4 ⟨A5, k5, rfl, hk5, hD5, hb4, hA5⟩; have z4 := hb4.size; (try simp at z4 hA5); have KY4 := (show Blk _ (w.heap.size + 1) #[.bool false, .slice B (dg b).length d] from (by repeat (first | with_reducible assumption | (with_reducible refine Blk.newAt _ _ _ _ ?_; (first | rfl | (simp; done))) | with_reducible refine Blk.drew ?_ | with_reducible refine Blk.alloc ?_ _ | with_reducible refine Blk.drewN ?_ _ | with_reducible apply Blk.put2 | (with_reducible refine Blk.far ?_ ?_ _; rotate_left; (first | omega | (simp <;> omega))) | with_reducible refine Blk.below ?_ (by with_reducible assumption)))).below hb4; have K94 := (show Blk _ g9 #[.bool (decide (0 < q)), .slice (some ⟨(w.heap.size + 1 + 1 + 1 + 1), 0, none⟩) (dg q).length xs.length] from (by repeat (first | with_reducible assumption | (with_reducible refine Blk.newAt _ _ _ _ ?_; (first | rfl | (simp; done))) | with_reducible refine Blk.drew ?_ | with_reducible refine Blk.alloc ?_ _ | with_reducible refine Blk.drewN ?_ _ | with_reducible apply Blk.put2 | (with_reducible refine Blk.far ?_ ?_ _; rotate_left; (first | omega | (simp <;> omega))) | with_reducible refine Blk.below ?_ (by with_reducible assumption)))).below hb4; have KR4 := (show Blk _ (w.heap.size + 1 + 1) #[.bool u1, .slice none 0 0] from (by repeat (first | with_reducible assumption | (with_reducible refine Blk.newAt _ _ _ _ ?_; (first | rfl | (simp; done))) | with_reducible refine Blk.drew ?_ | with_reducible refine Blk.alloc ?_ _ | with_reducible refine Blk.drewN ?_ _ | with_reducible apply Blk.put2 | (with_reducible refine Blk.far ?_ ?_ _; rotate_left; (first | omega | (simp <;> omega))) | with_reducible refine Blk.below ?_ (by with_reducible assumption)))).below hb4; have KS4 := (show Blk _ (w.heap.size + 1 + 1 + 1) #[.bool u2, .slice none 0 0] from (by repeat (first | with_reducible assumption | (with_reducible refine Blk.newAt _ _ _ _ ?_; (first | rfl | (simp; done))) | with_reducible refine Blk.drew ?_ | with_reducible refine Blk.alloc ?_ _ | with_reducible refine Blk.drewN ?_ _ | with_reducible apply Blk.put2 | (with_reducible refine Blk.far ?_ ?_ _; rotate_left; (first | omega | (simp <;> omega))) | with_reducible refine Blk.below ?_ (by with_reducible assumption)))).below hb4; have KQ4 := (show Blk _ (w.heap.size + 1 + 1 + 1 + 1) (cells qs) from (by repeat (first | with_reducible assumption | (with_reducible refine Blk.newAt _ _ _ _ ?_; (first | rfl | (simp; done))) | with_reducible refine Blk.drew ?_ | with_reducible refine Blk.alloc ?_ _ | with_reducible refine Blk.drewN ?_ _ | with_reducible apply Blk.put2 | (with_reducible refine Blk.far ?_ ?_ _; rotate_left; (first | omega | (simp <;> omega))) | with_reducible refine Blk.below ?_ (by with_reducible assumption)))).below hb4; have K104 := (show Blk _ w3.heap.size #[.bool false, .slice A2 (dg r).length k2] from (by repeat (first | with_reducible assumption | (with_reducible refine Blk.newAt _ _ _ _ ?_; (first | rfl | (simp; done))) | with_reducible refine Blk.drew ?_ | with_reducible refine Blk.alloc ?_ _ | with_reducible refine Blk.drewN ?_ _ | with_reducible apply Blk.put2 | (with_reducible refine Blk.far ?_ ?_ _; rotate_left; (first | omega | (simp <;> omega))) | with_reducible refine Blk.below ?_ (by with_reducible assumption)))).below hb4)
              | (go_at_call 25; refine (N3.out _ _ _).mono ?_; rintro e w5 ⟨rfl, hb5⟩; have z5 := hb5.size; (try simp at z5); have K105 := K104.below hb5; have c10 := Blk.cell K105; have f10 := Blk.frozen K105; have lc10 := Blk.lt K105))
            go_meet
            exact ⟨rfl, A5, k5, Blk.put2 K105 _ _, hk5, Dg.put2 (hD5.below hb5) (fun b o e => by have := hA5 b o e; omega) _ _, (by repeat (first | with_reducible assumption | (with_reducible refine Blk.newAt _ _ _ _ ?_; (first | rfl | (simp; done))) | with_reducible refine Blk.drew ?_ | with_reducible refine Blk.alloc ?_ _ | with_reducible refine Blk.drewN ?_ _ | with_reducible apply Blk.put2 | (with_reducible refine Blk.far ?_ ?_ _; rotate_left; (first | omega | (simp <;> omega))) | with_reducible refine Blk.below ?_ (by with_reducible assumption))), (by repeat (first | with_reducible assumption | (with_reducible refine Blk.newAt _ _ _ _ ?_; (first | rfl | (simp; done))) | with_reducible refine Blk.drew ?_ | with_reducible refine Blk.alloc ?_ _ | with_reducible refine Blk.drewN ?_ _ | with_reducible apply Blk.put2 | (with_reducible refine Blk.far ?_ ?_ _; rotate_left; (first | omega | (simp <;> omega))) | with_reducible refine Blk.below ?_ (by with_reducible assumption))), (by repeat (first | with_reducible assumption | (with_reducible refine Blk.newAt _ _ _ _ ?_; (first | rfl | (simp; done))) | with_reducible refine Blk.drew ?_ | with_reducible refine Blk.alloc ?_ _ | with_reducible refine Blk.drewN ?_ _ | with_reducible apply Blk.put2 | (with_reducible refine Blk.far ?_ ?_ _; rotate_left; (first | omega | (simp <;> omega))) | with_reducible refine Blk.below ?_ (by with_reducible assumption))), (by repeat (first | with_reducible assumption | (with_reducible refine Blk.newAt _ _ _ _ ?_; (first | rfl | (simp; done))) | with_reducible refine Blk.drew ?_ | with_reducible refine Blk.alloc ?_ _ | with_reducible refine Blk.drewN ?_ _ | with_reducible apply Blk.put2 | (with_reducible refine Blk.far ?_ ?_ _; rotate_left; (first | omega | (simp <;> omega))) | with_reducible refine Blk.below ?_ (by with_reducible assumption))), (by repeat (first | with_reducible assumption | (with_reducible refine Blk.newAt _ _ _ _ ?_; (first | rfl | (simp; done))) | with_reducible refine Blk.drew ?_ | with_reducible refine Blk.alloc ?_ _ | with_reducible refine Blk.drewN ?_ _ | with_reducible apply Blk.put2 | (with_reducible refine Blk.far ?_ ?_ _; rotate_left; (first | omega | (simp <;> omega))) | with_reducible refine Blk.below ?_ (by with_reducible assumption))), (by repeat (first | with_reducible exact Below.refl _ _ | with_reducible refine Below.drew ?_ | with_reducible refine below_alloc ?_ _ | (with_reducible refine below_set ?_ ?_ _; rotate_left; (first | omega | (simp <;> omega))) | with_reducible refine below_drewN ?_ _ | with_reducible refine below_tr ?_ (by with_reducible assumption)))⟩
          case rest =>
            obtain ⟨rfl, A5, k5, K10, hk5, hD5, KY, K9, KR, KS, KQ, hbw⟩ := hcut
            have l10 := K10.lt
            have l9 := K9.lt
            have lr5 := KR.lt
            have ls5 := KS.lt
            have ly3 := KY3.lt
            have lq3 := KQ3.lt
            have n910 : g9 ≠ w3.heap.size := by have := K93.lt; omega
            clear KX3 KY3 K93 KR3 KS3 KQ3 HD3 cx3 fx3 c93 f93 cr3 fr3 cs3 fs3
            have hD5' := Lib.hid hD5
            clear hD5
            have cy4 := Blk.cell KY; have fy4 := Blk.frozen KY; have lcy4 := Blk.lt KY
            have c94 := Blk.cell K9; have f94 := Blk.frozen K9; have lc94 := Blk.lt K9
            go_upto_region 16 with fail
            go_cut [9] (fun p wx => p = .pointer (some ⟨g9, 0, none⟩) ∧ ∃ A7 k7, Blk wx g9 #[.bool true, .slice A7 (dg (q + 1)).length k7] ∧ (dg (q + 1)).length ≤ k7 ∧ Dg wx A7 (dg (q + 1)) ∧ Blk wx w3.heap.size #[.bool false, .slice A5 (dg (b - r)).length k5] ∧ Dg wx A5 (dg (b - r)) ∧ Blk wx (w.heap.size + 1 + 1) #[.bool u1, .slice none 0 0] ∧ Blk wx (w.heap.size + 1 + 1 + 1) #[.bool u2, .slice none 0 0] ∧ Below w.heap.size w wx)
            case first =>
              go_wp2_with fail
              go_region_with (first
                | (go_at_call 12; refine (one_of _).mono ?_; rintro e w6 ⟨A6, k6, rfl, hS6, hb6⟩; have z6 := hb6.size; (try simp at z6); have K96 := Blk.below (Blk.drew K9) hb6; have K106 := Blk.below (Blk.drew K10) hb6; have KR6 := Blk.below (Blk.drew KR) hb6; have KS6 := Blk.below (Blk.drew KS) hb6; have KQ6 := Blk.below (Blk.drew KQ) hb6; have HD6 := Lib.hid (Dg.below (Dg.drew hD5'.out) hb6); have c96 := Blk.cell K96; have f96 := Blk.frozen K96; have lc96 := Blk.lt K96)
                | (go_at_call 16; refine (OS.out _ _ _ (HT.out _ KQ6) hS6).mono ?_; rintro e w7 ⟨A7, k7, rfl, hk7, hD7, hb7⟩; have z7 := hb7.size; (try simp at z7); have K97 := K96.below hb7; have K107 := K106.below hb7; have KR7 := KR6.below hb7; have KS7 := KS6.below hb7; have HD7 := Lib.hid (HD6.out.below hb7); have c97 := Blk.cell K97; have f97 := Blk.frozen K97; have lc97 := Blk.lt K97))
              all_goals go_wp2_with fail
              all_goals go_meet
              all_goals exact ⟨rfl, A7, k7, Blk.put2 K97 _ _, hk7, Dg.putN hD7 K97 _ _, (by repeat (first | with_reducible assumption | (with_reducible refine Blk.newAt _ _ _ _ ?_; (first | rfl | (simp; done))) | with_reducible refine Blk.drew ?_ | with_reducible refine Blk.alloc ?_ _ | with_reducible refine Blk.drewN ?_ _ | with_reducible apply Blk.put2 | (with_reducible refine Blk.far ?_ ?_ _; rotate_left; (first | omega | (simp <;> omega))) | with_reducible refine Blk.below ?_ (by with_reducible assumption))), Dg.putN HD7.out K97 _ _, (by repeat (first | with_reducible assumption | (with_reducible refine Blk.newAt _ _ _ _ ?_; (first | rfl | (simp; done))) | with_reducible refine Blk.drew ?_ | with_reducible refine Blk.alloc ?_ _ | with_reducible refine Blk.drewN ?_ _ | with_reducible apply Blk.put2 | (with_reducible refine Blk.far ?_ ?_ _; rotate_left; (first | omega | (simp <;> omega))) | with_reducible refine Blk.below ?_ (by with_reducible assumption))), (by repeat (first | with_reducible assumption | (with_reducible refine Blk.newAt _ _ _ _ ?_; (first | rfl | (simp; done))) | with_reducible refine Blk.drew ?_ | with_reducible refine Blk.alloc ?_ _ | with_reducible refine Blk.drewN ?_ _ | with_reducible apply Blk.put2 | (with_reducible refine Blk.far ?_ ?_ _; rotate_left; (first | omega | (simp <;> omega))) | with_reducible refine Blk.below ?_ (by with_reducible assumption))), (by repeat (first | with_reducible exact Below.refl _ _ | with_reducible refine Below.drew ?_ | with_reducible refine below_alloc ?_ _ | (with_reducible refine below_set ?_ ?_ _; rotate_left; (first | omega | (simp <;> omega))) | with_reducible refine below_drewN ?_ _ | with_reducible refine below_tr ?_ (by with_reducible assumption)))⟩
            case rest =>
              obtain ⟨rfl, A7, k7, K9, hk7, hD7, K10, hD5, KR, KS, hbw⟩ := hcut
              have H7 := Lib.hid (And.intro hD7 hD5)
              clear hD7 hD5 cy4 fy4 c94 f94 hD5'
              have c95 := Blk.cell K9; have f95 := Blk.frozen K9; have lc95 := Blk.lt K9
              have c105 := Blk.cell K10; have f105 := Blk.frozen K10; have lc105 := Blk.lt K10
              have cr5 := Blk.cell KR; have fr5 := Blk.frozen KR; have lcr5 := Blk.lt KR
              have cs5 := Blk.cell KS; have fs5 := Blk.frozen KS; have lcs5 := Blk.lt KS
              go_wp2
              go_region_held3 (fun w' => w'.cell? ⟨g9, 0, none⟩ = some (.bool true) ∧ w'.cell? ⟨g9, 1, none⟩ = some (.slice A7 (dg ((q + 1))).length k7) ∧ w'.cell? ⟨w3.heap.size, 0, none⟩ = some (.bool false) ∧ w'.cell? ⟨w3.heap.size, 1, none⟩ = some (.slice A5 (dg ((b - r))).length k5)) (first | (go_keep; done) | (exact ⟨(Blk.cell (cs := #[.bool true, .slice A7 (dg ((q + 1))).length k7]) (by repeat (first | with_reducible assumption | (with_reducible refine Blk.newAt _ _ _ _ ?_; (first | rfl | (simp; done))) | with_reducible refine Blk.drew ?_ | with_reducible refine Blk.alloc ?_ _ | with_reducible refine Blk.drewN ?_ _ | with_reducible apply Blk.put2 | (with_reducible refine Blk.far ?_ ?_ _; rotate_left; (first | omega | (simp <;> omega))) | with_reducible refine Blk.below ?_ (by with_reducible assumption))) 0).trans rfl, (Blk.cell (cs := #[.bool true, .slice A7 (dg ((q + 1))).length k7]) (by repeat (first | with_reducible assumption | (with_reducible refine Blk.newAt _ _ _ _ ?_; (first | rfl | (simp; done))) | with_reducible refine Blk.drew ?_ | with_reducible refine Blk.alloc ?_ _ | with_reducible refine Blk.drewN ?_ _ | with_reducible apply Blk.put2 | (with_reducible refine Blk.far ?_ ?_ _; rotate_left; (first | omega | (simp <;> omega))) | with_reducible refine Blk.below ?_ (by with_reducible assumption))) 1).trans rfl, (Blk.cell (cs := #[.bool false, .slice A5 (dg ((b - r))).length k5]) (by repeat (first | with_reducible assumption | (with_reducible refine Blk.newAt _ _ _ _ ?_; (first | rfl | (simp; done))) | with_reducible refine Blk.drew ?_ | with_reducible refine Blk.alloc ?_ _ | with_reducible refine Blk.drewN ?_ _ | with_reducible apply Blk.put2 | (with_reducible refine Blk.far ?_ ?_ _; rotate_left; (first | omega | (simp <;> omega))) | with_reducible refine Blk.below ?_ (by with_reducible assumption))) 0).trans rfl, (Blk.cell (cs := #[.bool false, .slice A5 (dg ((b - r))).length k5]) (by repeat (first | with_reducible assumption | (with_reducible refine Blk.newAt _ _ _ _ ?_; (first | rfl | (simp; done))) | with_reducible refine Blk.drew ?_ | with_reducible refine Blk.alloc ?_ _ | with_reducible refine Blk.drewN ?_ _ | with_reducible apply Blk.put2 | (with_reducible refine Blk.far ?_ ?_ _; rotate_left; (first | omega | (simp <;> omega))) | with_reducible refine Blk.below ?_ (by with_reducible assumption))) 1).trans rfl⟩)) (fail)
              go_wp2
              refine bodyPost_ret (v := .tuple #[.agg #[.bool true, .slice A7 (dg ((q + 1))).length k7], .agg #[.bool false, .slice A5 (dg ((b - r))).length k5]]) (by simp [results, Try.results28, go_sem, cr5, cs5, lcr5, lcs5, World.cell?_alloc_lt]) rfl ?_
              rw [F.out.1, F.out.2]
              have r0 := d1.out
              obtain ⟨hD7, hD5⟩ := H7.out
              exact DivRet.mk (by simp [Qz, r0]; omega) (by simp [Qz, r0]; omega) (by simp [Rz, r0]; omega) (by simp [Rz, r0]; omega) hk7 (by omega) (Dg.drew (Dg.putN (Dg.putN hD7 KR _ _) (by repeat (first | with_reducible assumption | (with_reducible refine Blk.newAt _ _ _ _ ?_; (first | rfl | (simp; done))) | with_reducible refine Blk.drew ?_ | with_reducible refine Blk.alloc ?_ _ | with_reducible refine Blk.drewN ?_ _ | with_reducible apply Blk.put2 | (with_reducible refine Blk.far ?_ ?_ _; rotate_left; (first | omega | (simp <;> omega))) | with_reducible refine Blk.below ?_ (by with_reducible assumption))) _ _)) hk5 (by omega) (Dg.drew (Dg.putN (Dg.putN hD5 KR _ _) (by repeat (first | with_reducible assumption | (with_reducible refine Blk.newAt _ _ _ _ ?_; (first | rfl | (simp; done))) | with_reducible refine Blk.drew ?_ | with_reducible refine Blk.alloc ?_ _ | with_reducible refine Blk.drewN ?_ _ | with_reducible apply Blk.put2 | (with_reducible refine Blk.far ?_ ?_ _; rotate_left; (first | omega | (simp <;> omega))) | with_reducible refine Blk.below ?_ (by with_reducible assumption))) _ _)) (by repeat (first | with_reducible exact Below.refl _ _ | with_reducible refine Below.drew ?_ | with_reducible refine below_alloc ?_ _ | (with_reducible refine below_set ?_ ?_ _; rotate_left; (first | omega | (simp <;> omega))) | with_reducible refine below_drewN ?_ _ | with_reducible refine below_tr ?_ (by with_reducible assumption)))
    · have hx : k - 1 < xs.length := by omega
      have e1 : ((k : Int) - 1).toNat = k - 1 := by omega
      obtain ⟨ba, oa, rfl, k1⟩ := HA.out (k - 1) hx
      have k1 := (hbw.cell (World.block_lt_of_cell? w _ k1)).trans k1
      obtain ⟨r0, hr0⟩ : ∃ r0, r0 = (xs[k - 1] + 10 * (r : Int)).toNat := ⟨_, rfl⟩
      have DI := DO.inn (by omega) hx DA.out
      rw [← hr0] at DI
      have DIH := Lib.hid DI
      clear DI DO
      obtain ⟨v1, w1, hr, ⟨A3, k3, rfl, hk3, hD3, hA3⟩, hb1⟩ := run_front wr xs[k - 1] A2 k2 (dg r) hD (by omega) 26
      simp only [List.length_cons] at hr hk3
      have hdg : Digs (xs[k - 1] :: dg r) := fun e he => by
        rcases List.mem_cons.1 he with rfl | h
        · exact DA.out.at (k - 1) hx
        · exact digs_dg r e h
      have TR := wtrim_n A3 ((dg r).length + 1) k3 (xs[k - 1] :: dg r) w1 (by simp) (by simpa using hk3) (by simp; omega) hD3 hdg
      have ev : (val (xs[k - 1] :: dg r)).toNat = r0 := by
        rw [hr0]
        show (xs[k - 1] + 10 * val (dg r)).toNat = _
        rw [val_dg]
      have hD4 := hD3.trim hdg
      have hk4 := Nat.le_trans (dg_len_of _ hdg) (by simpa using hk3)
      rw [ev] at TR hD4 hk4
      have TRH := Lib.hid TR
      clear TR
      have KX1 := KX.below hb1
      have KY1 := KY.below hb1
      have KR1 := KR.below hb1
      have KS1 := KS.below hb1
      have KQ1 := KQ.below hb1
      have cx1 := Blk.cell KX1; have fx1 := Blk.frozen KX1; have lcx1 := Blk.lt KX1
      have cy1 := Blk.cell KY1; have fy1 := Blk.frozen KY1; have lcy1 := Blk.lt KY1
      go_wp2_with (first
        | (at_builtin; refine wpList_append_ran rfl _ _ 26 rfl _ _ rfl rfl _ w1 hr ?_)
        | (go_at_call 26; refine TRH.out.mono ?_; rintro e w2 ⟨rfl, rfl⟩))
      have lq := KQ.lt
      go_loopw [6] (fun rv wr => ∃ (r : Nat) (qs : List Int) (A2 : Option Addr) (k2 : Nat), rv = .slice A2 (dg r).length k2 ∧ (dg r).length ≤ k2 ∧ Dg wr A2 (dg r) ∧ (∀ g o, A2 = some ⟨g, o, none⟩ → (w.heap.size + 1 + 1 + 1 + 1) < g) ∧ DivIn xs b (k - 1) qs r ∧ Blk wr w.heap.size #[.bool sg, .slice (some ⟨ba, oa, none⟩) xs.length c] ∧ Blk wr (w.heap.size + 1) #[.bool false, .slice B (dg b).length d] ∧ (∃ u1, Blk wr (w.heap.size + 1 + 1) #[.bool u1, .slice none 0 0]) ∧ (∃ u2, Blk wr (w.heap.size + 1 + 1 + 1) #[.bool u2, .slice none 0 0]) ∧ Blk wr (w.heap.size + 1 + 1 + 1 + 1) (cells qs) ∧ Below w.heap.size w wr) (fun _ wr => match wr.cell? ⟨(w.heap.size + 1 + 1 + 1 + 1), k - 1, none⟩ with | some (.int _ n) => (10 - n).toNat | _ => 0)
      case atStart => exact ⟨r0, qs, A3, k3, by rw [hr0], hk4, hD4, (fun g o e => by have := hA3 g o e; omega), DIH.out, (by repeat (first | with_reducible assumption | with_reducible exact Blk.new _ _ _ | with_reducible exact Blk.new1 _ _ _ _ | with_reducible exact Blk.new2 _ _ _ _ _ | with_reducible exact Blk.new3 _ _ _ _ _ _ | with_reducible refine Blk.drew ?_ | with_reducible refine Blk.alloc ?_ _ | with_reducible refine Blk.drewN ?_ _ | with_reducible apply Blk.put2 | with_reducible apply Blk.put3 | with_reducible apply Blk.put5 | (with_reducible refine Blk.far ?_ ?_ _; rotate_left; (first | omega | (simp <;> omega))) | with_reducible refine Blk.below ?_ (by with_reducible assumption))), (by repeat (first | with_reducible assumption | with_reducible exact Blk.new _ _ _ | with_reducible exact Blk.new1 _ _ _ _ | with_reducible exact Blk.new2 _ _ _ _ _ | with_reducible exact Blk.new3 _ _ _ _ _ _ | with_reducible refine Blk.drew ?_ | with_reducible refine Blk.alloc ?_ _ | with_reducible refine Blk.drewN ?_ _ | with_reducible apply Blk.put2 | with_reducible apply Blk.put3 | with_reducible apply Blk.put5 | (with_reducible refine Blk.far ?_ ?_ _; rotate_left; (first | omega | (simp <;> omega))) | with_reducible refine Blk.below ?_ (by with_reducible assumption))), ⟨u1, (by repeat (first | with_reducible assumption | with_reducible exact Blk.new _ _ _ | with_reducible exact Blk.new1 _ _ _ _ | with_reducible exact Blk.new2 _ _ _ _ _ | with_reducible exact Blk.new3 _ _ _ _ _ _ | with_reducible refine Blk.drew ?_ | with_reducible refine Blk.alloc ?_ _ | with_reducible refine Blk.drewN ?_ _ | with_reducible apply Blk.put2 | with_reducible apply Blk.put3 | with_reducible apply Blk.put5 | (with_reducible refine Blk.far ?_ ?_ _; rotate_left; (first | omega | (simp <;> omega))) | with_reducible refine Blk.below ?_ (by with_reducible assumption)))⟩, ⟨u2, (by repeat (first | with_reducible assumption | with_reducible exact Blk.new _ _ _ | with_reducible exact Blk.new1 _ _ _ _ | with_reducible exact Blk.new2 _ _ _ _ _ | with_reducible exact Blk.new3 _ _ _ _ _ _ | with_reducible refine Blk.drew ?_ | with_reducible refine Blk.alloc ?_ _ | with_reducible refine Blk.drewN ?_ _ | with_reducible apply Blk.put2 | with_reducible apply Blk.put3 | with_reducible apply Blk.put5 | (with_reducible refine Blk.far ?_ ?_ _; rotate_left; (first | omega | (simp <;> omega))) | with_reducible refine Blk.below ?_ (by with_reducible assumption)))⟩, (by repeat (first | with_reducible assumption | with_reducible exact Blk.new _ _ _ | with_reducible exact Blk.new1 _ _ _ _ | with_reducible exact Blk.new2 _ _ _ _ _ | with_reducible exact Blk.new3 _ _ _ _ _ _ | with_reducible refine Blk.drew ?_ | with_reducible refine Blk.alloc ?_ _ | with_reducible refine Blk.drewN ?_ _ | with_reducible apply Blk.put2 | with_reducible apply Blk.put3 | with_reducible apply Blk.put5 | (with_reducible refine Blk.far ?_ ?_ _; rotate_left; (first | omega | (simp <;> omega))) | with_reducible refine Blk.below ?_ (by with_reducible assumption))), (by repeat (first | with_reducible exact Below.refl _ _ | with_reducible refine Below.drew ?_ | with_reducible refine below_alloc ?_ _ | (with_reducible refine below_set ?_ ?_ _; rotate_left; (first | omega | (simp <;> omega))) | with_reducible refine below_drewN ?_ _ | with_reducible refine below_tr ?_ (by with_reducible assumption)))⟩
      case round =>
        clear hr hD3 hA3 hD4 hk4 hk3 KX1 KY1 KR1 KS1 KQ1 TRH DIH hD cx fx cy fy cx1 fx1 cy1 fy1 cr fr cs fs
        obtain ⟨r2, qs2, A4, k4, rfl, hrk2, hD2, hA4, DI, KX, KY, ⟨u1, KR⟩, ⟨u2, KS⟩, KQ, hbw2⟩ := hrel
        have z3 := hbw2.size
        (try simp at z3)
        have hql : qs2.length = xs.length := DI.1
        have hi2 : k - 1 < qs2.length := by omega
        have hrl2 : (dg r2).length ≤ 50000 := by
          have h1 := dg_mono r2 (10 * b) (Nat.le_of_lt (DI.less hi2 hb0))
          have h2 := mul_len 10 b 2 40000 (dg_len 2 10 (by decide)) hl2
          omega
        have LS := Lib.hid (fun w' (hb' : Below w.heap.size w w') (hD : Dg w' A4 (dg r2)) => wLess_any A4 B k4 d r2 b w' ⟨hrk2, by omega, hD, digs_dg r2⟩ (HB.out.below hb'))
        have cx := Blk.cell KX; have fx := Blk.frozen KX; have lcx := Blk.lt KX
        have cy := Blk.cell KY; have fy := Blk.frozen KY; have lcy := Blk.lt KY
        by_cases hlt : r2 < b
        · have d1 : decide (r2 < b) = true := decide_eq_true hlt
          have O := Lib.hid (DI.out hlt)
          clear DI
          go_wp2_with (go_at_call 17; refine (LS.out _ (by repeat (first | with_reducible exact Below.refl _ _ | with_reducible refine Below.drew ?_ | with_reducible refine below_alloc ?_ _ | (with_reducible refine below_set ?_ ?_ _; rotate_left; (first | omega | (simp <;> omega))) | with_reducible refine below_drewN ?_ _ | with_reducible refine below_tr ?_ (by with_reducible assumption))) hD2).mono ?_; rintro e w4 ⟨rfl, hb4⟩; have z4 := hb4.size; (try simp at z4); have KX4 := KX.below hb4; have KY4 := KY.below hb4; have KR4 := KR.below hb4; have KS4 := KS.below hb4; have KQ4 := KQ.below hb4; have hD4 := hD2.below hb4)
          go_roundw
          case rel => exact ⟨k - 1, r2, qs2, A4, k4, by rw [show ((k - 1 : Nat) : Int) = (k : Int) - 1 by omega], rfl, by omega, hrk2, hD4, hA4, O.out, (by repeat (first | with_reducible assumption | with_reducible exact Blk.new _ _ _ | with_reducible exact Blk.new1 _ _ _ _ | with_reducible exact Blk.new2 _ _ _ _ _ | with_reducible exact Blk.new3 _ _ _ _ _ _ | with_reducible refine Blk.drew ?_ | with_reducible refine Blk.alloc ?_ _ | with_reducible refine Blk.drewN ?_ _ | with_reducible apply Blk.put2 | with_reducible apply Blk.put3 | with_reducible apply Blk.put5 | (with_reducible refine Blk.far ?_ ?_ _; rotate_left; (first | omega | (simp <;> omega))) | with_reducible refine Blk.below ?_ (by with_reducible assumption))), (by repeat (first | with_reducible assumption | with_reducible exact Blk.new _ _ _ | with_reducible exact Blk.new1 _ _ _ _ | with_reducible exact Blk.new2 _ _ _ _ _ | with_reducible exact Blk.new3 _ _ _ _ _ _ | with_reducible refine Blk.drew ?_ | with_reducible refine Blk.alloc ?_ _ | with_reducible refine Blk.drewN ?_ _ | with_reducible apply Blk.put2 | with_reducible apply Blk.put3 | with_reducible apply Blk.put5 | (with_reducible refine Blk.far ?_ ?_ _; rotate_left; (first | omega | (simp <;> omega))) | with_reducible refine Blk.below ?_ (by with_reducible assumption))), ⟨u1, (by repeat (first | with_reducible assumption | with_reducible exact Blk.new _ _ _ | with_reducible exact Blk.new1 _ _ _ _ | with_reducible exact Blk.new2 _ _ _ _ _ | with_reducible exact Blk.new3 _ _ _ _ _ _ | with_reducible refine Blk.drew ?_ | with_reducible refine Blk.alloc ?_ _ | with_reducible refine Blk.drewN ?_ _ | with_reducible apply Blk.put2 | with_reducible apply Blk.put3 | with_reducible apply Blk.put5 | (with_reducible refine Blk.far ?_ ?_ _; rotate_left; (first | omega | (simp <;> omega))) | with_reducible refine Blk.below ?_ (by with_reducible assumption)))⟩, ⟨u2, (by repeat (first | with_reducible assumption | with_reducible exact Blk.new _ _ _ | with_reducible exact Blk.new1 _ _ _ _ | with_reducible exact Blk.new2 _ _ _ _ _ | with_reducible exact Blk.new3 _ _ _ _ _ _ | with_reducible refine Blk.drew ?_ | with_reducible refine Blk.alloc ?_ _ | with_reducible refine Blk.drewN ?_ _ | with_reducible apply Blk.put2 | with_reducible apply Blk.put3 | with_reducible apply Blk.put5 | (with_reducible refine Blk.far ?_ ?_ _; rotate_left; (first | omega | (simp <;> omega))) | with_reducible refine Blk.below ?_ (by with_reducible assumption)))⟩, (by repeat (first | with_reducible assumption | with_reducible exact Blk.new _ _ _ | with_reducible exact Blk.new1 _ _ _ _ | with_reducible exact Blk.new2 _ _ _ _ _ | with_reducible exact Blk.new3 _ _ _ _ _ _ | with_reducible refine Blk.drew ?_ | with_reducible refine Blk.alloc ?_ _ | with_reducible refine Blk.drewN ?_ _ | with_reducible apply Blk.put2 | with_reducible apply Blk.put3 | with_reducible apply Blk.put5 | (with_reducible refine Blk.far ?_ ?_ _; rotate_left; (first | omega | (simp <;> omega))) | with_reducible refine Blk.below ?_ (by with_reducible assumption))), (by repeat (first | with_reducible exact Below.refl _ _ | with_reducible refine Below.drew ?_ | with_reducible refine below_alloc ?_ _ | (with_reducible refine below_set ?_ ?_ _; rotate_left; (first | omega | (simp <;> omega))) | with_reducible refine below_drewN ?_ _ | with_reducible refine below_tr ?_ (by with_reducible assumption)))⟩
          case measure => simp [intOf]; omega
        · have d1 : decide (r2 < b) = false := decide_eq_false hlt
          have S := Lib.hid (DI.step (by omega) hi2)
          have sm := DI.small (by omega) hi2
          obtain ⟨q0, q9⟩ := DI.2.1.at (k - 1) hi2
          have MN := Lib.hid (fun w' (hb' : Below w.heap.size w w') (hD : Dg w' A4 (dg r2)) => minus_dgf A4 B k4 d r2 b w' ⟨hrk2, by omega, hD, digs_dg r2⟩ (HB.out.below hb') (by omega))
          clear DI
          have lq2 := KQ.lt
          go_wp2_with (first
            | (go_at_call 17; refine (LS.out _ (by repeat (first | with_reducible exact Below.refl _ _ | with_reducible refine Below.drew ?_ | with_reducible refine below_alloc ?_ _ | (with_reducible refine below_set ?_ ?_ _; rotate_left; (first | omega | (simp <;> omega))) | with_reducible refine below_drewN ?_ _ | with_reducible refine below_tr ?_ (by with_reducible assumption))) hD2).mono ?_; rintro e w4 ⟨rfl, hb4⟩; have z4 := hb4.size; (try simp at z4); have KX4 := KX.below hb4; have KY4 := KY.below hb4; have KR4 := KR.below hb4; have KS4 := KS.below hb4; have KQ4 := KQ.below hb4; have hD4 := hD2.below hb4; have cx4 := Blk.cell KX4; have fx4 := Blk.frozen KX4; have lcx4 := Blk.lt KX4; have cy4 := Blk.cell KY4; have fy4 := Blk.frozen KY4; have lcy4 := Blk.lt KY4)
            | (go_at_call 30; refine (MN.out _ (by repeat (first | with_reducible exact Below.refl _ _ | with_reducible refine Below.drew ?_ | with_reducible refine below_alloc ?_ _ | (with_reducible refine below_set ?_ ?_ _; rotate_left; (first | omega | (simp <;> omega))) | with_reducible refine below_drewN ?_ _ | with_reducible refine below_tr ?_ (by with_reducible assumption))) hD4).mono ?_; rintro e w5 ⟨A5, k5, rfl, hk5, hD5, hb5, hA5⟩; have KX5 := KX4.below hb5; have KY5 := KY4.below hb5; have KR5 := KR4.below hb5; have KS5 := KS4.below hb5; have KQ5 := KQ4.below hb5; have co := (KQ5.cell (k - 1)).trans (cells_at qs2 (k - 1) hi2); have fo := KQ5.frozen (k - 1); have lo := KQ5.lt; have cx5 := Blk.cell KX5; have fx5 := Blk.frozen KX5; have lcx5 := Blk.lt KX5; have cy5 := Blk.cell KY5; have fy5 := Blk.frozen KY5; have lcy5 := Blk.lt KY5))
          go_roundw
          case rel => exact ⟨r2 - b, _, A5, k5, rfl, hk5, Dg.set hD5 (fun g o e h => by have := hA5 g o e; omega) _ _, (fun g o e => by have := hA5 g o e; omega), S.out, (by repeat (first | with_reducible assumption | with_reducible exact Blk.new _ _ _ | with_reducible exact Blk.new1 _ _ _ _ | with_reducible exact Blk.new2 _ _ _ _ _ | with_reducible exact Blk.new3 _ _ _ _ _ _ | with_reducible refine Blk.drew ?_ | with_reducible refine Blk.alloc ?_ _ | with_reducible refine Blk.drewN ?_ _ | with_reducible apply Blk.put2 | with_reducible apply Blk.put3 | with_reducible apply Blk.put5 | (with_reducible refine Blk.far ?_ ?_ _; rotate_left; (first | omega | (simp <;> omega))) | with_reducible refine Blk.below ?_ (by with_reducible assumption))), (by repeat (first | with_reducible assumption | with_reducible exact Blk.new _ _ _ | with_reducible exact Blk.new1 _ _ _ _ | with_reducible exact Blk.new2 _ _ _ _ _ | with_reducible exact Blk.new3 _ _ _ _ _ _ | with_reducible refine Blk.drew ?_ | with_reducible refine Blk.alloc ?_ _ | with_reducible refine Blk.drewN ?_ _ | with_reducible apply Blk.put2 | with_reducible apply Blk.put3 | with_reducible apply Blk.put5 | (with_reducible refine Blk.far ?_ ?_ _; rotate_left; (first | omega | (simp <;> omega))) | with_reducible refine Blk.below ?_ (by with_reducible assumption))), ⟨u1, (by repeat (first | with_reducible assumption | with_reducible exact Blk.new _ _ _ | with_reducible exact Blk.new1 _ _ _ _ | with_reducible exact Blk.new2 _ _ _ _ _ | with_reducible exact Blk.new3 _ _ _ _ _ _ | with_reducible refine Blk.drew ?_ | with_reducible refine Blk.alloc ?_ _ | with_reducible refine Blk.drewN ?_ _ | with_reducible apply Blk.put2 | with_reducible apply Blk.put3 | with_reducible apply Blk.put5 | (with_reducible refine Blk.far ?_ ?_ _; rotate_left; (first | omega | (simp <;> omega))) | with_reducible refine Blk.below ?_ (by with_reducible assumption)))⟩, ⟨u2, (by repeat (first | with_reducible assumption | with_reducible exact Blk.new _ _ _ | with_reducible exact Blk.new1 _ _ _ _ | with_reducible exact Blk.new2 _ _ _ _ _ | with_reducible exact Blk.new3 _ _ _ _ _ _ | with_reducible refine Blk.drew ?_ | with_reducible refine Blk.alloc ?_ _ | with_reducible refine Blk.drewN ?_ _ | with_reducible apply Blk.put2 | with_reducible apply Blk.put3 | with_reducible apply Blk.put5 | (with_reducible refine Blk.far ?_ ?_ _; rotate_left; (first | omega | (simp <;> omega))) | with_reducible refine Blk.below ?_ (by with_reducible assumption)))⟩, Blk.put KQ5 _ _ (cells_set _ _ _), (by repeat (first | with_reducible exact Below.refl _ _ | with_reducible refine Below.drew ?_ | with_reducible refine below_alloc ?_ _ | (with_reducible refine below_set ?_ ?_ _; rotate_left; (first | omega | (simp <;> omega))) | with_reducible refine below_drewN ?_ _ | with_reducible refine below_tr ?_ (by with_reducible assumption)))⟩
          case measure =>
            have co0 := (KQ.cell (k - 1)).trans (cells_at qs2 (k - 1) hi2)
            have co1 := ((Blk.put KQ5 (k - 1) _ (cells_set qs2 (k - 1) (qs2[k - 1] + 1))).cell (k - 1)).trans (cells_at _ (k - 1) (by simpa using hi2))
            rw [List.getElem_set_self] at co1
            rw [co0, co1]
            show (10 - (qs2[k - 1] + 1)).toNat < (10 - qs2[k - 1]).toNat
            omega
theorem qr_is (x y : Int) (hy : 0 < y) : x / y = Qz (decide (x < 0)) (x.natAbs / y.natAbs) (x.natAbs % y.natAbs) ∧ x % y = Rz (decide (x < 0)) (x.natAbs % y.natAbs) y.natAbs := by
  have e := Nat.div_add_mod x.natAbs y.natAbs
  have l := Nat.mod_lt x.natAbs (show 0 < y.natAbs by omega)
  have e2 : (y.natAbs : Int) = y := by omega
  generalize x.natAbs / y.natAbs = q at *
  generalize x.natAbs % y.natAbs = r at *
  have e3 : y * (q : Int) + r = (x.natAbs : Int) := by
    rw [← e, Int.natCast_add, Int.natCast_mul, e2]
  rw [Int.ediv_emod_unique hy]
  by_cases hx : x < 0
  · by_cases hr : r = 0
    · subst hr
      simp only [Qz, Rz, hx, decide_true, if_true]
      refine ⟨?_, by omega, by omega⟩
      rw [Int.mul_neg]
      omega
    · simp only [Qz, Rz, hx, decide_true, if_true, hr, if_false]
      refine ⟨?_, by omega, by omega⟩
      rw [Int.mul_sub, Int.mul_neg]
      omega
  · simp only [Qz, Rz, hx, decide_false]
    refine ⟨?_, by simp, by simp; omega⟩
    simp
    omega
theorem wDiv_any (x y : Int) (A B : Option Addr) (c d : Nat) (w : World) (ha : SlN w A c x) (hb : SlN w B d y) (hl : (dg x.natAbs).length ≤ 40000) (hl2 : (dg y.natAbs).length ≤ 40000) (hy : 0 < y) :
    Calls Try.prog 28 #[.agg #[.bool (decide (x < 0)), .slice (A) (dg (x).natAbs).length (c)], .agg #[.bool (decide (y < 0)), .slice (B) (dg (y).natAbs).length (d)]] w (DivRet (x / y) (x % y) w) := by
  have h := wDiv_plain (decide (x < 0)) (dg x.natAbs) y.natAbs A B c d w ha hb hl hl2 (by omega)
  rw [val_dg, Int.toNat_natCast] at h
  obtain ⟨e1, e2⟩ := qr_is x y hy
  rw [← e1, ← e2] at h
  have e3 : decide (y < 0) = false := decide_eq_false (by omega)
  rw [e3]
  exact h
end Go.Proofs.Ythopiolbnhjgnaa
