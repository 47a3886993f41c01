/- Wide numbers of the reference: digits in memory; what is trimmed. -/
import Derived.Test.YthopiolbnhjgnaaLib
import Derived.Test.YthopiolbnhjgnaaDig
import Derived.Test.YthopiolbnhjgnaaNum
import Derived.Laws.AppendOwn
set_option linter.unusedSimpArgs false
set_option linter.unusedVariables false
set_option maxRecDepth 20000
namespace Go.Proofs.Ythopiolbnhjgnaa
open Go.RowKit



/-- The slice that begins at A reads as these numbers. -/
def Dg (w : World) (A : Option Addr) (xs : List Int) : Prop := ∀ i (_ : i < xs.length), ∃ b o, A = some ⟨b, o, none⟩ ∧ w.cell? ⟨b, o + i, none⟩ = some (.int .i64 xs[i])
theorem Dg.nil (w : World) (A : Option Addr) : Dg w A [] := fun i h => absurd h (by simp)
theorem Dg.below {w w1 : World} {A : Option Addr} {xs : List Int} (h : Dg w A xs) (hb : Below w.heap.size w w1) : Dg w1 A xs := fun i hi => by
  obtain ⟨b, o, hA, hc⟩ := h i hi
  exact ⟨b, o, hA, (hb.cell (World.block_lt_of_cell? w _ hc)).trans hc⟩
theorem Dg.belowB {w0 w w1 : World} {A : Option Addr} {xs : List Int} (h : Dg w0 A xs) (hb : Below w0.heap.size w0 w1) : Dg w1 A xs := h.below hb
theorem Dg.alloc {w : World} {A : Option Addr} {xs : List Int} (h : Dg w A xs) (o : Obj) : Dg (w.alloc o) A xs := h.below (below_alloc (Below.refl _ _) o)
theorem Dg.set {w : World} {A : Option Addr} {xs : List Int} (h : Dg w A xs) {g : Nat} (hA : ∀ b o, A = some ⟨b, o, none⟩ → b ≠ g) (i : Nat) (u : Value) : Dg (w.setCell ⟨g, i, none⟩ u) A xs := fun j hj => by
  obtain ⟨b, o, hb, hc⟩ := h j hj
  refine ⟨b, o, hb, ?_⟩
  rw [World.cell?_setCell_other _ _ _ _ (by intro e; cases e; exact hA _ _ hb rfl)]
  exact hc
theorem Dg.take {w : World} {A : Option Addr} {xs ys : List Int} (h : Dg w A xs) (hy : ys = xs.take ys.length) : Dg w A ys := fun i hi => by
  have hl : ys.length ≤ xs.length := by
    have := congrArg List.length hy
    rw [List.length_take] at this
    omega
  obtain ⟨b, o, hA, hc⟩ := h i (by omega)
  refine ⟨b, o, hA, ?_⟩
  rw [hc]
  have : ys[i] = xs[i] := by
    have h1 : ys[i]? = (xs.take ys.length)[i]? := by rw [← hy]
    rw [List.getElem?_take_of_lt hi, List.getElem?_eq_getElem hi, List.getElem?_eq_getElem (by omega)] at h1
    exact Option.some.inj h1
  rw [this]
/-- A block that lies whole. -/
theorem Dg.of_blk {w : World} {g : Nat} {cs : Array Value} (h : Blk w g cs) (xs : List Int) (hx : ∀ i (_ : i < xs.length), cs[i]? = some (.int .i64 xs[i])) : Dg w (some ⟨g, 0, none⟩) xs := fun i hi =>
  ⟨g, 0, rfl, by rw [Nat.zero_add, h.cell]; exact hx i hi⟩

/-- What a row of the call's own holds reads so. -/
theorem Dg.of_own {w : World} {base : Nat} {v : Value} {n : Nat} {xs : List Int} (h : w.ownsRow base 3 1 v n (xs.map (.int .i64))) : ∃ A c, v = .slice A xs.length c ∧ xs.length ≤ c ∧ Dg w A xs ∧ (∀ b o, A = some ⟨b, o, none⟩ → base ≤ b ∧ b < w.heap.size) := by
  obtain ⟨hl, h⟩ := h
  have hn : n = xs.length := by simpa using hl.symm
  rcases h with ⟨rfl, h0⟩ | ⟨g, cap, cur, rfl, hg, hb, hc, _, hs, ht⟩
  · have : xs = [] := by
      rw [h0] at hn
      exact List.length_eq_zero_iff.1 hn.symm
    subst this
    exact ⟨none, 0, rfl, Nat.le_refl _, Dg.nil _ _, fun b o h => by cases h⟩
  · refine ⟨some ⟨g, 0, none⟩, cap, by rw [hn], by omega, ?_, ?_⟩
    · apply Dg.of_blk (cs := cur) ⟨_, hb⟩
      intro i hi
      have h1 : (cur.toList.take (n * 1))[i]? = (xs.map (Value.int .i64))[i]? := by rw [ht]
      rw [List.getElem?_take_of_lt (by omega)] at h1
      rw [List.getElem?_map, List.getElem?_eq_getElem hi] at h1
      simpa using h1
    · intro b o e
      cases e
      exact ⟨hg, (Array.getElem?_eq_some_iff.1 hb).1⟩

/-- Digits behind a result. -/
def RetD (n : Nat) (w : World) (e : Ending) (w' : World) : Prop := ∃ A c, e = .returned (.slice A (dg n).length c) ∧ (dg n).length ≤ c ∧ Dg w' A (dg n) ∧ Below w.heap.size w w'

set_option maxHeartbeats 1000000 in
theorem wtrim_any (A : Option Addr) (c : Nat) (xs : List Int) (w : World) (hc : xs.length ≤ c) (hm : xs.length ≤ 1000000) (h : Dg w A xs) (hd : Digs xs) :
    Calls Try.prog 26 #[.slice A xs.length c] w fun e w' => e = .returned (.slice A (dg (val xs).toNat).length c) ∧ w = w' := by
  have H := Lib.hid h
  clear h
  go_enter Try.func26, Try.ntmps26
  go_wp2
  go_loop [0] (fun v => ∃ k : Nat, k ≤ xs.length ∧ v = .slice A k c ∧ ∀ i, k ≤ i → ∀ (hi : i < xs.length), xs[i] = 0) (fun v => match v with | .slice _ n _ => n | _ => 0)
  case atStart => exact ⟨xs.length, Nat.le_refl _, rfl, fun i h1 h2 => absurd h2 (by omega)⟩
  case round =>
    obtain ⟨k, hk, rfl, hz⟩ := hrel
    have HZ := Lib.hid hz
    clear hz
    by_cases h0 : k = 0
    · have E := Lib.hid (trim_is xs hd k hk HZ.out (Or.inl h0)).2
      subst h0
      go_wp2
      go_ret
      exact ⟨by rw [E.out]; rfl, rfl⟩
    · have hlt : k - 1 < xs.length := by omega
      obtain ⟨b, o, rfl, hcell⟩ := H.out (k - 1) hlt
      have d0 : decide (0 < (k : Int)) = true := by simp; omega
      by_cases hx : xs[k - 1] = 0
      · rw [hx] at hcell
        go_wp2
        go_round
        case rel =>
          refine ⟨k - 1, by omega, rfl, fun i hi1 hi2 => ?_⟩
          by_cases e : i = k - 1
          · subst e; exact hx
          · exact HZ.out i (by omega) hi2
        case measure => simp; omega
      · have E := Lib.hid (trim_is xs hd k hk HZ.out (Or.inr ⟨hlt, hx⟩)).2
        have d1 : (xs[k - 1] == 0) = false := by simp [hx]
        clear hx
        go_wp2
        go_ret
        exact ⟨by rw [E.out]; rfl, rfl⟩

theorem dg_take_of (xs : List Int) (hd : Digs xs) : dg (val xs).toNat = xs.take (dg (val xs).toNat).length := by
  have : ∀ m k : Nat, k ≤ xs.length → xs.length - k = m → (∀ i, xs.length - m ≤ i → ∀ (hi : i < xs.length), xs[i] = 0) → True := fun _ _ _ _ _ => trivial
  clear this
  -- the least k behind which all are noughts
  have key : ∀ m : Nat, m ≤ xs.length → (∀ i, m ≤ i → ∀ (hi : i < xs.length), xs[i] = 0) → ∃ k, k ≤ xs.length ∧ (∀ i, k ≤ i → ∀ (hi : i < xs.length), xs[i] = 0) ∧ (k = 0 ∨ ∃ hi : k - 1 < xs.length, xs[k - 1] ≠ 0) := by
    intro m
    induction m with
    | zero => intro hm h; exact ⟨0, hm, h, Or.inl rfl⟩
    | succ m ih =>
      intro hm h
      by_cases hx : xs[m]'(by omega) = 0
      · refine ih (by omega) (fun i hi1 hi2 => ?_)
        by_cases e : i = m
        · subst e; exact hx
        · exact h i (by omega) hi2
      · exact ⟨m + 1, hm, h, Or.inr ⟨by omega, hx⟩⟩
  obtain ⟨k, hk, h1, h2⟩ := key xs.length (Nat.le_refl _) (fun i h1 h2 => absurd h2 (by omega))
  obtain ⟨e1, e2⟩ := trim_is xs hd k hk h1 h2
  rw [e2]
  exact e1.symm

/-- Digits that are trimmed read as the number's. -/
theorem Dg.trim {w : World} {A : Option Addr} {xs : List Int} (h : Dg w A xs) (hd : Digs xs) : Dg w A (dg (val xs).toNat) := h.take (dg_take_of xs hd)
theorem dg_len_of (xs : List Int) (hd : Digs xs) : (dg (val xs).toNat).length ≤ xs.length := by
  have := congrArg List.length (dg_take_of xs hd)
  rw [List.length_take] at this
  omega


theorem wtrim_n (A : Option Addr) (n c : Nat) (xs : List Int) (w : World) (hn : xs.length = n) (hc : xs.length ≤ c) (hm : xs.length ≤ 1000000) (h : Dg w A xs) (hd : Digs xs) :
    Calls Try.prog 26 #[.slice A n c] w fun e w' => e = .returned (.slice A (dg (val xs).toNat).length c) ∧ w = w' := by
  subst hn
  exact wtrim_any A c xs w hc hm h hd
theorem info_int : (Try.prog.info? 3).map (fun i => (i.zero, i.size, i.bytes)) = some (some (.int .i64 0), 1, 8) := by kernel_rfl
theorem one_new (w : World) (v : Value) (T : TypeId) : ∀ j u, [v][j]? = some u → (w.alloc (.cells #[v] T)).cell? ((⟨w.heap.size, 0, none⟩ : Addr).add j) = some u := by
  intro j u h
  cases j with
  | zero =>
    simp at h
    subst h
    rw [show (⟨w.heap.size, 0, none⟩ : Addr).add 0 = ⟨w.heap.size, 0, none⟩ from rfl, (Blk.new w #[v] T).cell 0]
    rfl
  | succ j => simp at h
theorem below_grown {W w w' : World} {base : Nat} {e : TypeId} {v : Value} {n : Nat} {xs : List Value} (h : Below W.heap.size W w) (hg : w.grownBy w' v.ownBlock) (ho : w.ownsRow base e 1 v n xs) (hB : W.heap.size ≤ base) : Below W.heap.size W w' :=
  h.grown hg h.size (fun k hk => Nat.le_trans hB (ho.lt k hk).1)
theorem Blk.grown {w w' : World} {base g : Nat} {e : TypeId} {v : Value} {n : Nat} {xs : List Value} {cs : Array Value} (h : Blk w g cs) (hg : w.grownBy w' v.ownBlock) (ho : w.ownsRow base e 1 v n xs) (hB : g < base) : Blk w' g cs := by
  obtain ⟨T, k⟩ := id h
  refine ⟨T, (hg.block g h.lt ?_).trans k⟩
  intro hk
  have := (ho.lt g hk.symm).1
  omega
theorem Dg.grown {w w' : World} {base : Nat} {e : TypeId} {v : Value} {n : Nat} {xs : List Value} {A : Option Addr} {ds : List Int} (h : Dg w A ds) (hg : w.grownBy w' v.ownBlock) (ho : w.ownsRow base e 1 v n xs) (hA : ∀ b o, A = some ⟨b, o, none⟩ → b < base) : Dg w' A ds := fun i hi => by
  obtain ⟨b, o, rfl, hc⟩ := h i hi
  refine ⟨b, o, rfl, ?_⟩
  refine (World.cell?_of_block (w := w) (hg.block b (World.block_lt_of_cell? w _ hc) ?_)).trans hc
  intro hk
  have := (ho.lt b hk.symm).1
  have := hA b o rfl
  omega
theorem one_cell1 (k : IntKind) (d : Int) : ∀ u ∈ [Value.int k d], u.oneCell' = true := by
  intro u hu
  simp at hu
  subst hu
  rfl
theorem List.map_snoc (xs : List Int) (d : Int) : xs.map (Value.int .i64) ++ [Value.int .i64 d] = (xs ++ [d]).map (Value.int .i64) := by simp

/-- A number behind a result. -/
def RetN (z : Int) (w : World) (e : Ending) (w' : World) : Prop := ∃ A c, e = .returned (.agg #[.bool (decide (z < 0)), .slice (A) (dg (z).natAbs).length (c)]) ∧ (dg z.natAbs).length ≤ c ∧ Dg w' A (dg z.natAbs) ∧ Below w.heap.size w w'

theorem wnum_any (b : Bool) (A : Option Addr) (n c : Nat) (w : World) (hn : n ≤ 1000000) :
    Calls Try.prog 25 #[.bool b, .slice A n c] w fun e w' => e = .returned (.agg #[.bool (b && decide (0 < (n : Int))), .slice A n c]) ∧ Below w.heap.size w w' := by
  cases b
  · go_enter Try.func25, Try.ntmps25
    go_wp2
    exact bodyPost_ret (v := .agg #[.bool false, .slice A n c]) (by simp [results, Try.results25, go_sem]) rfl ⟨rfl, (by repeat (first | with_reducible exact Below.refl _ _ | with_reducible refine Below.drew ?_ | with_reducible refine below_alloc ?_ _ | (with_reducible refine below_set ?_ ?_ _; rotate_left; (first | omega | (simp <;> omega))) | with_reducible refine below_drewN ?_ _ | with_reducible refine below_tr ?_ (by with_reducible assumption)))⟩
  · go_enter Try.func25, Try.ntmps25
    go_wp2
    exact bodyPost_ret (v := .agg #[.bool (decide (0 < (n : Int))), .slice A n c]) (by simp [results, Try.results25, go_sem]) rfl ⟨rfl, (by repeat (first | with_reducible exact Below.refl _ _ | with_reducible refine Below.drew ?_ | with_reducible refine below_alloc ?_ _ | (with_reducible refine below_set ?_ ?_ _; rotate_left; (first | omega | (simp <;> omega))) | with_reducible refine below_drewN ?_ _ | with_reducible refine below_tr ?_ (by with_reducible assumption)))⟩

theorem dg_len0 (n : Nat) : decide (0 < ((dg n).length : Int)) = decide (n ≠ 0) := by
  by_cases h : n = 0
  · subst h; rw [dg_zero]; rfl
  · rw [dg_pos n h]
    simp [h]

theorem Dg.put2 {w : World} {A : Option Addr} {xs : List Int} (h : Dg w A xs) {g : Nat} (hA : ∀ b o, A = some ⟨b, o, none⟩ → b ≠ g) (u v : Value) : Dg ((w.setCell ⟨g, 0, none⟩ u).setCell ⟨g, 1, none⟩ v) A xs := (h.set hA 0 u).set hA 1 v

set_option maxHeartbeats 1000000 in
theorem wOf_neg (a : Int) (w : World) (h0 : -9223372036854775808 ≤ a) (hn : a < 0) :
    Calls Try.prog 12 #[.int .i64 (a)] w (RetN a w) := by
  obtain ⟨i0, hi0, hz0, hz1, hz2⟩ := info_parts info_int
  have ab : (a.natAbs : Int) ≤ 9223372036854775808 := by omega
  have e1 : IntKind.u64.wrap (-IntKind.u64.wrap a) = (a.natAbs : Int) := by rw [IntKind.wrap_u64, IntKind.wrap_u64]; omega
  go_enter Try.func12, Try.ntmps12
  go_wp2
  go_loopw [3, 4] (fun v d wr => ∃ (r : Nat) (ds : List Int), v = .int .u64 (r : Int) ∧ (r : Int) ≤ 9223372036854775808 ∧ wr.ownsRow (w.heap.size + 1) 3 1 d ds.length (ds.map (Value.int .i64)) ∧ ds ++ dg r = dg a.natAbs ∧ Blk wr w.heap.size #[.bool false, .slice none 0 0] ∧ Below w.heap.size w wr) (fun v _ _ => (intOf v).toNat)
  case atStart => exact ⟨a.natAbs, [], by rfl, by omega, World.ownsRow_nil _ _ _ _, by simp, (by repeat (first | with_reducible assumption | with_reducible exact Blk.new _ _ _ | with_reducible exact Blk.new1 _ _ _ _ | with_reducible exact Blk.new2 _ _ _ _ _ | with_reducible exact Blk.new3 _ _ _ _ _ _ | with_reducible refine Blk.drew ?_ | with_reducible refine Blk.alloc ?_ _ | with_reducible refine Blk.drewN ?_ _ | with_reducible apply Blk.put2 | with_reducible apply Blk.put3 | with_reducible apply Blk.put5 | (with_reducible refine Blk.far ?_ ?_ _; rotate_left; (first | omega | (simp <;> omega))) | with_reducible refine Blk.below ?_ (by with_reducible assumption))), (by repeat (first | with_reducible exact Below.refl _ _ | with_reducible refine Below.drew ?_ | with_reducible refine below_alloc ?_ _ | (with_reducible refine below_set ?_ ?_ _; rotate_left; (first | omega | (simp <;> omega))) | with_reducible refine below_drewN ?_ _ | with_reducible refine below_tr ?_ (by with_reducible assumption)))⟩
  case round =>
    obtain ⟨r, ds, rfl, hr, hown, hds, K, hb⟩ := hrel
    have len : ds.length ≤ 20 := by
      have h2 := congrArg List.length hds
      rw [List.length_append] at h2
      have := dg_len 20 a.natAbs (by omega)
      omega
    by_cases h0 : r = 0
    · subst h0
      rw [dg_zero, List.append_nil] at hds
      obtain ⟨A, c, rfl, hc, hD, hA⟩ := Dg.of_own hown
      have HD := Lib.hid (And.intro hD hA)
      clear hown hD hA
      subst hds
      have cK := Blk.cell K; have fK := Blk.frozen K; have lcK := Blk.lt K
      go_wp2
      refine bodyPost_ret (v := .agg #[.bool true, .slice A (dg a.natAbs).length c]) (by simp [results, Try.results12, go_sem, cK]) rfl ⟨A, c, by first | rfl | (simp; omega), hc, Dg.put2 HD.out.1 (fun b o e => by have := (HD.out.2 b o e).1; omega) _ _, (by repeat (first | with_reducible exact Below.refl _ _ | with_reducible refine Below.drew ?_ | with_reducible refine below_alloc ?_ _ | (with_reducible refine below_set ?_ ?_ _; rotate_left; (first | omega | (simp <;> omega))) | with_reducible refine below_drewN ?_ _ | with_reducible refine below_tr ?_ (by with_reducible assumption)))⟩
    · have E := Lib.hid (dg_pos r h0)
      have hr0 : decide (0 < (r : Int)) = true := by simp; omega
      have cK := Blk.cell K; have fK := Blk.frozen K; have lcK := Blk.lt K
      have hB : w.heap.size + 1 ≤ wr.heap.size := lcK
      go_wp2_with (at_builtin; refine wpList_append_own _ rfl _ _ 26 rfl (w.heap.size + 1) 3 i0 (.int .i64 0) 1 8 Try.underlying26 hi0 hz0 hz1 hz2 rfl (by decide) _ _ _ rfl (hown.alloc _) ⟨wr.heap.size, 0, none⟩ 1 1 [.int .i64 ((r : Int) % 10)] rfl rfl (one_new _ _ _) (one_cell1 _ _) ?c3 ?c4 ?c5 ?_; (case c3 => (unfold maxLen; omega)); (case c4 => omega); (case c5 => (simp; omega)); intro v1 w1 hown1 hg1 _; have hb1 := below_grown (below_alloc hb _) hg1 (hown.alloc _) (by omega); rw [List.map_snoc] at hown1)
      go_roundw
      case rel => exact ⟨r / 10, ds ++ [(r : Int) % 10], by simp, by omega, by rw [List.length_append]; exact hown1, by rw [List.append_assoc, ← hds, E.out]; simp, Blk.grown (K.alloc _) hg1 (hown.alloc _) (by omega), hb1⟩
      case measure => simp [intOf]; omega

set_option maxHeartbeats 1000000 in
theorem wOf_pos (a : Int) (w : World) (h1 : a ≤ 9223372036854775807) (hn : 0 ≤ a) :
    Calls Try.prog 12 #[.int .i64 (a)] w (RetN a w) := by
  obtain ⟨i0, hi0, hz0, hz1, hz2⟩ := info_parts info_int
  have ab : (a.natAbs : Int) ≤ 9223372036854775808 := by omega
  go_enter Try.func12, Try.ntmps12
  go_wp2
  go_loopw [3, 4] (fun v d wr => ∃ (r : Nat) (ds : List Int), v = .int .u64 (r : Int) ∧ (r : Int) ≤ 9223372036854775808 ∧ wr.ownsRow (w.heap.size + 1) 3 1 d ds.length (ds.map (Value.int .i64)) ∧ ds ++ dg r = dg a.natAbs ∧ Blk wr w.heap.size #[.bool false, .slice none 0 0] ∧ Below w.heap.size w wr) (fun v _ _ => (intOf v).toNat)
  case atStart => exact ⟨a.natAbs, [], by rw [show (a.natAbs : Int) = a by omega], by omega, World.ownsRow_nil _ _ _ _, by simp, (by repeat (first | with_reducible assumption | with_reducible exact Blk.new _ _ _ | with_reducible exact Blk.new1 _ _ _ _ | with_reducible exact Blk.new2 _ _ _ _ _ | with_reducible exact Blk.new3 _ _ _ _ _ _ | with_reducible refine Blk.drew ?_ | with_reducible refine Blk.alloc ?_ _ | with_reducible refine Blk.drewN ?_ _ | with_reducible apply Blk.put2 | with_reducible apply Blk.put3 | with_reducible apply Blk.put5 | (with_reducible refine Blk.far ?_ ?_ _; rotate_left; (first | omega | (simp <;> omega))) | with_reducible refine Blk.below ?_ (by with_reducible assumption))), (by repeat (first | with_reducible exact Below.refl _ _ | with_reducible refine Below.drew ?_ | with_reducible refine below_alloc ?_ _ | (with_reducible refine below_set ?_ ?_ _; rotate_left; (first | omega | (simp <;> omega))) | with_reducible refine below_drewN ?_ _ | with_reducible refine below_tr ?_ (by with_reducible assumption)))⟩
  case round =>
    obtain ⟨r, ds, rfl, hr, hown, hds, K, hb⟩ := hrel
    have len : ds.length ≤ 20 := by
      have h2 := congrArg List.length hds
      rw [List.length_append] at h2
      have := dg_len 20 a.natAbs (by omega)
      omega
    by_cases h0 : r = 0
    · subst h0
      rw [dg_zero, List.append_nil] at hds
      obtain ⟨A, c, rfl, hc, hD, hA⟩ := Dg.of_own hown
      have HD := Lib.hid (And.intro hD hA)
      clear hown hD hA
      subst hds
      have cK := Blk.cell K; have fK := Blk.frozen K; have lcK := Blk.lt K
      go_wp2
      refine bodyPost_ret (v := .agg #[.bool (decide (a < 0)), .slice A (dg a.natAbs).length c]) (by simp [results, Try.results12, go_sem, cK]) rfl ⟨A, c, by first | rfl | (simp; omega), hc, Dg.put2 HD.out.1 (fun b o e => by have := (HD.out.2 b o e).1; omega) _ _, (by repeat (first | with_reducible exact Below.refl _ _ | with_reducible refine Below.drew ?_ | with_reducible refine below_alloc ?_ _ | (with_reducible refine below_set ?_ ?_ _; rotate_left; (first | omega | (simp <;> omega))) | with_reducible refine below_drewN ?_ _ | with_reducible refine below_tr ?_ (by with_reducible assumption)))⟩
    · have E := Lib.hid (dg_pos r h0)
      have hr0 : decide (0 < (r : Int)) = true := by simp; omega
      have cK := Blk.cell K; have fK := Blk.frozen K; have lcK := Blk.lt K
      have hB : w.heap.size + 1 ≤ wr.heap.size := lcK
      go_wp2_with (at_builtin; refine wpList_append_own _ rfl _ _ 26 rfl (w.heap.size + 1) 3 i0 (.int .i64 0) 1 8 Try.underlying26 hi0 hz0 hz1 hz2 rfl (by decide) _ _ _ rfl (hown.alloc _) ⟨wr.heap.size, 0, none⟩ 1 1 [.int .i64 ((r : Int) % 10)] rfl rfl (one_new _ _ _) (one_cell1 _ _) ?c3 ?c4 ?c5 ?_; (case c3 => (unfold maxLen; omega)); (case c4 => omega); (case c5 => (simp; omega)); intro v1 w1 hown1 hg1 _; have hb1 := below_grown (below_alloc hb _) hg1 (hown.alloc _) (by omega); rw [List.map_snoc] at hown1)
      go_roundw
      case rel => exact ⟨r / 10, ds ++ [(r : Int) % 10], by simp, by omega, by rw [List.length_append]; exact hown1, by rw [List.append_assoc, ← hds, E.out]; simp, Blk.grown (K.alloc _) hg1 (hown.alloc _) (by omega), hb1⟩
      case measure => simp [intOf]; omega

theorem wOf_any (a : Int) (w : World) (h : I64 a) : Calls Try.prog 12 #[.int .i64 (a)] w (RetN a w) := by
  by_cases hn : a < 0
  · exact wOf_neg a w h.1 hn
  · exact wOf_pos a w h.2 (by omega)

end Go.Proofs.Ythopiolbnhjgnaa
