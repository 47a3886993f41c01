/- Wide numbers of the reference: a number out of its text; walked. -/
import Derived.Test.YthopiolbnhjgnaaWten
import Derived.Lib.Strings
set_option linter.unusedSimpArgs false
set_option linter.unusedVariables false
set_option maxRecDepth 20000
namespace Go.Proofs.Ythopiolbnhjgnaa
open Go.RowKit



theorem take_more (ds : List Int) (j : Nat) (h : j < ds.length) : ds.take j ++ [ds[j]] = ds.take (j + 1) := (List.take_succ_eq_append_getElem h).symm
theorem fits_yes (z : Int) (s : Bool) (A : Option Addr) (n c : Nat) (w : World) (h : IsN w z s A n c) (hf : z.natAbs < 2 ^ 4096) :
    Calls Try.prog 27 #[.agg #[.bool s, .slice A n c], .int .i64 (4096)] w fun e w' => e = .returned (.bool true) ∧ Below w.heap.size w w' := by
  refine (fitsI z s A n c 4096 w (by decide) h).mono ?_
  rintro e w' ⟨rfl, hb⟩
  exact ⟨by rw [decide_eq_true hf], hb⟩
set_option maxHeartbeats 4000000 in
theorem parse_any (s : ByteArray) (ds : List Int) (w : World) (hl : ds.length = s.size) (hD : Digs ds) (hb : ∀ i (h : i < s.size) (h' : s.size - 1 - i < ds.length), (s[i].toNat : Int) = 48 + ds[s.size - 1 - i]) (h1 : 1 < s.size) (h2 : s.size ≤ 1300) (p0 : 0 < s.size)
    (h3 : ((s[0]'p0).toNat : Int) ≠ 48) (hf : (val ds).natAbs < 2 ^ 4096) :
    Calls Try.prog 9 #[.string s] w fun e w' => ∃ s1 A n c, e = .returned (.tuple #[.agg #[.bool s1, .slice A n c], .int .i64 (0)]) ∧ IsN w' (val ds) s1 A n c ∧ Below w.heap.size w w' := by
  obtain ⟨i0, hi0, hz0, hz1, hz2⟩ := info_parts info_int
  have b0 := hb 0 (by omega) (by omega)
  have d0 := hD.at (s.size - 1 - 0) (by omega)
  have e1 : (((s[0]'p0).toNat : Int) == 45) = false := by simp; omega
  have e2 : (((s[0]'p0).toNat : Int) == 48) = false := by simp; omega
  have e3 : s.toList.isEmpty = false := by
    have h : s.toList.length = s.size := by rw [Lib.toList_data, Lib.size_eq]
    cases hs : s.toList with
    | nil => rw [hs] at h; simp at h; omega
    | cons x r => rfl
  have e4 : decide (1300 < (s.size : Int)) = false := by simp; omega
  obtain ⟨q, hq⟩ : ∃ q : Nat, val ds = (q : Int) := ⟨(val ds).toNat, by have := val_nn hD; omega⟩
  rw [hq] at hf ⊢
  have hq2 : (val ds).toNat = q := by omega
  have lq := dg_len_of ds hD
  rw [hq2] at lq
  have TR := Lib.hid (fun A c w' (hc : ds.length ≤ c) (h : Dg w' A ds) => wtrim_any A c ds w' hc (by omega) h hD)
  have HT := Lib.hid (fun A w' (h : Dg w' A ds) => Dg.trim h hD)
  rw [hq2] at TR HT
  have NM := Lib.hid (fun A k w' => numN A k q w' (by omega))
  have FT := Lib.hid (fun A c w' (h : IsN w' (q : Int) false A (dg q).length c) => fits_yes (q : Int) false A _ c w' h hf)
  have LQ : (dg q).length ≤ 1300 := by omega
  have HB := Lib.hid hb
  have HL := Lib.hid hl
  have HD := Lib.hid hD
  clear hb hl hf hD b0 d0 h3 hq hq2
  go_enter Try.func9, Try.ntmps9
  go_wp2_with fail
  go_loopw [6, 7] (fun v iv wr => ∃ k j : Nat, j + k = s.size ∧ iv = .int .i64 ((k : Int) - 1) ∧ wr.ownsRow (w.heap.size + 1) 3 1 v (ds.take j).length ((ds.take j).map (Value.int .i64)) ∧ Blk wr w.heap.size #[.bool false, .slice none 0 0] ∧ Below w.heap.size w wr) (fun _ iv _ => (intOf iv + 1).toNat)
  case atStart => exact ⟨s.size, 0, by omega, rfl, World.ownsRow_nil _ _ _ _, (by repeat (first | with_reducible assumption | (with_reducible refine Blk.newAt _ _ _ _ ?_; (first | rfl | (simp; done))) | with_reducible refine Blk.drew ?_ | with_reducible refine Blk.alloc ?_ _ | with_reducible refine Blk.drewN ?_ _ | with_reducible apply Blk.put2 | (with_reducible refine Blk.far ?_ ?_ _; rotate_left; (first | omega | (simp <;> omega))) | with_reducible refine Blk.below ?_ (by with_reducible assumption))), (by repeat (first | with_reducible exact Below.refl _ _ | with_reducible refine Below.drew ?_ | with_reducible refine below_alloc ?_ _ | (with_reducible refine below_set ?_ ?_ _; rotate_left; (first | omega | (simp <;> omega))) | with_reducible refine below_drewN ?_ _ | with_reducible refine below_tr ?_ (by with_reducible assumption)))⟩
  case round =>
    obtain ⟨k, j, hk, rfl, hown, K, hb⟩ := hrel
    have lK := K.lt
    have HK := Lib.hid hk
    have j1 : j ≤ 1300 := by omega
    have len : (ds.take j).length ≤ 1300 := Nat.le_trans (List.length_take_le _ _) j1
    clear hk
    by_cases h0 : k = 0
    · subst h0
      have ed : ds.take j = ds := List.take_of_length_le (by have := HL.out; have := HK.out; omega)
      rw [ed] at hown
      obtain ⟨A, c, rfl, hc, hD, hA⟩ := Dg.of_own hown
      have HN := Lib.hid (show IsN wr (q : Int) false A (dg q).length c from ⟨(decide_eq_false (by omega)).symm, rfl, Nat.le_trans lq hc, by show (dg q).length ≤ 100000; omega, HT.out A wr hD, digs_dg q⟩)
      have HD0 := Lib.hid hD
      clear hown hD hA ed
      go_wp2_with (first
        | (go_at_call 26; refine (TR.out A c _ hc HD0.out).mono ?_; rintro e w1 ⟨rfl, rfl⟩)
        | (go_at_call 25; refine (NM.out A c _).mono ?_; rintro e w2 ⟨rfl, hb2⟩; have z2 := hb2.size; (try simp at z2); have K2 := K.below hb2; have HN2 := Lib.hid (HN.out.below hb2))
        | (go_at_call 27; refine (FT.out A c _ (IsN.alloc HN2.out _)).mono ?_; rintro e w3 ⟨rfl, hb3⟩; have z3 := hb3.size; (try simp at z3); have K3 := Blk.below (K2.alloc _) hb3; have KA3 := Blk.below (Blk.new w2 #[.bool false, .slice A (dg q).length c] _) hb3; have HN3 := Lib.hid (IsN.below (IsN.alloc HN2.out _) hb3); have c3 := Blk.cell K3; have f3 := Blk.frozen K3; have lc3 := Blk.lt K3; have cA3 := Blk.cell KA3; have fA3 := Blk.frozen KA3; have lcA3 := Blk.lt KA3))
      exact bodyPost_ret (v := .tuple #[.agg #[.bool false, .slice A (dg q).length c], .int .i64 (0)]) (by simp [results, Try.results9, go_sem, c3]) rfl ⟨false, A, _, c, rfl, IsN.put HN3.out K3 _ _, (by repeat (first | with_reducible exact Below.refl _ _ | with_reducible refine Below.drew ?_ | with_reducible refine below_alloc ?_ _ | (with_reducible refine below_set ?_ ?_ _; rotate_left; (first | omega | (simp <;> omega))) | with_reducible refine below_drewN ?_ _ | with_reducible refine below_tr ?_ (by with_reducible assumption)))⟩
    · have hlt : k - 1 < s.size := by have := HK.out; omega
      have p1 : s.size - 1 - (k - 1) < ds.length := by have := HL.out; have := HK.out; omega
      have hbk := HB.out (k - 1) hlt p1
      obtain ⟨d9, d8⟩ := HD.out.at (s.size - 1 - (k - 1)) p1
      have ej : s.size - 1 - (k - 1) = j := by have := HK.out; omega
      have pj : j < ds.length := by omega
      have ET := Lib.hid (take_more ds j pj)
      obtain ⟨dg1, hdg⟩ : ∃ x, x = ds[j] := ⟨_, rfl⟩
      simp only [ej] at hbk d9 d8
      rw [← hdg] at hbk d9 d8 ET
      have e1k : ((k : Int) - 1).toNat = k - 1 := by omega
      have E9 := Lib.hid (show 48 + dg1 - 48 = dg1 by omega)
      clear hdg ej
      have hB : w.heap.size + 1 ≤ wr.heap.size := lK
      go_wp2_with (at_builtin; refine wpList_append_own _ rfl _ _ 26 rfl (w.heap.size + 1) 3 i0 (.int .i64 0) 1 8 Try.underlying26 hi0 hz0 hz1 hz2 rfl (by decide) _ _ _ rfl (hown.alloc _) ⟨wr.heap.size, 0, none⟩ 1 1 [.int .i64 (48 + dg1 - 48)] rfl rfl (one_new _ _ _) (one_cell1 _ _) ?c3 ?c4 ?c5 ?_; (case c3 => (unfold maxLen; omega)); (case c4 => omega); (case c5 => (simp; omega)); intro v1 w1 hown1 hg1 _; have hb1 := below_grown (below_alloc hb _) hg1 (hown.alloc _) (by omega); rw [List.map_snoc] at hown1)
      go_roundw
      case rel =>
        rw [E9.out, ET.out] at hown1
        refine ⟨k - 1, j + 1, by have := HK.out; omega, by rw [show ((k - 1 : Nat) : Int) = (k : Int) - 1 by omega], ?_, Blk.grown (K.alloc _) hg1 (hown.alloc _) (by omega), hb1⟩
        have e2 : (ds.take (j + 1)).length = (ds.take j).length + 1 := by rw [List.length_take, List.length_take]; omega
        rw [e2]
        exact hown1
      case measure => simp [intOf]; omega

/-- The whole turn's text, its digits, its number. -/
def wholeS : ByteArray := ⟨#[54, 50, 56, 51, 49, 56, 53, 51, 48, 55, 49, 55, 57, 53, 56, 54, 52, 55, 54, 57, 50, 53, 50, 56, 54, 55, 54, 54, 53, 53, 57]⟩
def wholeD : List Int := [9, 5, 5, 6, 6, 7, 6, 8, 2, 5, 2, 9, 6, 7, 4, 6, 8, 5, 9, 7, 1, 7, 0, 3, 5, 8, 1, 3, 8, 2, 6]
def wholeI : Int := 6283185307179586476925286766559
theorem whole_val : val wholeD = wholeI := by decide +kernel
theorem whole_byte : ∀ i : Fin 31, (wholeS[i.1]!.toNat : Int) = 48 + wholeD.getD (30 - i.1) 0 := by decide +kernel
theorem whole_digs : Digs wholeD := by
  have h : wholeD.all (fun d => decide (0 ≤ d ∧ d ≤ 9)) = true := by decide +kernel
  intro d hd
  have := List.all_eq_true.1 h d hd
  exact of_decide_eq_true this
theorem whole_fits : wholeI.natAbs < 2 ^ 4096 := by decide +kernel
theorem whole_size : wholeS.size = 31 := rfl
theorem dl_whole : dl wholeI ≤ 31 := dl_lt _ 31 (by decide +kernel)
theorem parseW (w : World) : Calls Try.prog 9 #[.string wholeS] w fun e w' => ∃ s1 A n c, e = .returned (.tuple #[.agg #[.bool s1, .slice A n c], .int .i64 (0)]) ∧ IsN w' wholeI s1 A n c ∧ Below w.heap.size w w' := by
  have h := parse_any wholeS wholeD w rfl whole_digs (fun i h h' => ?_) (by rw [whole_size]; decide) (by rw [whole_size]; decide) (by rw [whole_size]; decide) ?_ (by rw [whole_val]; exact whole_fits)
  · rw [whole_val] at h
    exact h
  · have hi : i < 31 := h
    have hb := whole_byte ⟨i, hi⟩
    simp only at hb
    rw [getElem!_pos wholeS i h] at hb
    rw [hb]
    have e : wholeS.size - 1 - i = 30 - i := by rw [whole_size]
    rw [List.getD_eq_getElem?_getD, List.getElem?_eq_getElem (by rw [← e]; exact h')]
    simp only [e, Option.getD_some]
  · have hb := whole_byte ⟨0, by decide⟩
    simp only at hb
    rw [getElem!_pos wholeS 0 (by rw [whole_size]; decide)] at hb
    rw [hb]
    decide +kernel
end Go.Proofs.Ythopiolbnhjgnaa
