/- Wide numbers of the reference: each a number behind its sign and digits; the steps by these words. -/
import Derived.Test.YthopiolbnhjgnaaWdiv
set_option linter.unusedSimpArgs false
set_option linter.unusedVariables false
set_option maxRecDepth 20000
namespace Go.Proofs.Ythopiolbnhjgnaa
open Go.RowKit



/-- How many digits a number has. -/
def dl (z : Int) : Nat := (dg z.natAbs).length
/-- A sign and digits in memory are a number. -/
def IsN (w : World) (z : Int) (s : Bool) (A : Option Addr) (n c : Nat) : Prop := s = decide (z < 0) ∧ n = dl z ∧ SlN w A c z
def RetI (z : Int) (w : World) (e : Ending) (w' : World) : Prop := ∃ s A n c, e = .returned (.agg #[.bool s, .slice A n c]) ∧ IsN w' z s A n c ∧ Below w.heap.size w w'
def RetII (x y : Int) (w : World) (e : Ending) (w' : World) : Prop := ∃ s A n c s2 A2 n2 c2, e = .returned (.tuple #[.agg #[.bool s, .slice A n c], .agg #[.bool s2, .slice A2 n2 c2]]) ∧ IsN w' x s A n c ∧ IsN w' y s2 A2 n2 c2 ∧ Below w.heap.size w w'
theorem IsN.below {w w1 : World} {z : Int} {s : Bool} {A : Option Addr} {n c : Nat} (h : IsN w z s A n c) (hb : Below w.heap.size w w1) : IsN w1 z s A n c := ⟨h.1, h.2.1, SlD.below h.2.2 hb⟩
theorem IsN.drew {w : World} {z : Int} {s : Bool} {A : Option Addr} {n c : Nat} (h : IsN w z s A n c) : IsN w.drew z s A n c := h
theorem IsN.drewN {w : World} {z : Int} {s : Bool} {A : Option Addr} {n c : Nat} (h : IsN w z s A n c) (k : Nat) : IsN (w.drewN k) z s A n c := h
theorem IsN.alloc {w : World} {z : Int} {s : Bool} {A : Option Addr} {n c : Nat} (h : IsN w z s A n c) (o : Obj) : IsN (w.alloc o) z s A n c := h.below (below_alloc (Below.refl _ _) o)
theorem IsN.put {w : World} {z : Int} {s : Bool} {A : Option Addr} {n c : Nat} (h : IsN w z s A n c) {g : Nat} {b0 : Bool} {A0 : Option Addr} {n0 c0 : Nat} (K : Blk w g #[.bool b0, .slice A0 n0 c0]) (u v : Value) :
    IsN ((w.setCell ⟨g, 0, none⟩ u).setCell ⟨g, 1, none⟩ v) z s A n c := ⟨h.1, h.2.1, h.2.2.1, h.2.2.2.1, Dg.putN h.2.2.2.2.1 K u v, h.2.2.2.2.2⟩
theorem IsN.nil (w : World) : IsN w 0 false none 0 0 := by
  refine ⟨rfl, ?_, ?_, ?_, ?_, ?_⟩
  · show 0 = (dg 0).length; rw [dg_zero]; rfl
  · show (dg 0).length ≤ 0; rw [dg_zero]; exact Nat.le_refl _
  · show (dg 0).length ≤ 100000; rw [dg_zero]; simp
  · show Dg w none (dg 0); rw [dg_zero]; exact Dg.nil _ _
  · exact digs_dg 0
theorem dl_lt (z : Int) (k : Nat) (h : z.natAbs < 10 ^ k) : dl z ≤ k := dg_len k z.natAbs h
theorem dl_mono {x y : Int} (h : x.natAbs ≤ y.natAbs) : dl x ≤ dl y := dg_mono _ _ h
theorem dl_mul (x y : Int) : dl (x * y) ≤ dl x + dl y := by
  unfold dl
  rw [Int.natAbs_mul]
  exact mul_len _ _ _ _ (Nat.le_refl _) (Nat.le_refl _)
theorem dl_add (x y : Int) (L : Nat) (hx : dl x ≤ L) (hy : dl y ≤ L) : dl (x + y) ≤ L + 1 := by
  have h := plus_len x.natAbs y.natAbs L hx hy
  exact Nat.le_trans (dg_mono _ _ (by omega)) h
theorem dl_sub (x y : Int) (L : Nat) (hx : dl x ≤ L) (hy : dl y ≤ L) : dl (x - y) ≤ L + 1 := by
  have h := plus_len x.natAbs y.natAbs L hx hy
  exact Nat.le_trans (dg_mono _ _ (by omega)) h

theorem ofI (a : Int) (w : World) (h : I64 a) : Calls Try.prog 12 #[.int .i64 (a)] w (RetI a w) := by
  refine (wOf_any a w h).mono ?_
  rintro e w' ⟨A, c, rfl, hc, hD, hb⟩
  unfold I64 at h
  exact ⟨_, A, _, c, rfl, ⟨rfl, rfl, hc, by have := dl_lt a 20 (by omega); unfold dl at this; omega, hD, digs_dg _⟩, hb⟩
theorem addI (x y : Int) (s s2 : Bool) (A B : Option Addr) (n m c d : Nat) (w : World) (hx : IsN w x s A n c) (hy : IsN w y s2 B m d) (hl : n ≤ 40000) (hm : m ≤ 40000) :
    Calls Try.prog 15 #[.agg #[.bool s, .slice A n c], .agg #[.bool s2, .slice B m d]] w (RetI (x + y) w) := by
  obtain ⟨rfl, rfl, hx⟩ := hx
  obtain ⟨rfl, rfl, hy⟩ := hy
  unfold dl at hl hm
  refine (wAdd_any x y A B c d w hx hy (by omega) (by omega)).mono ?_
  rintro e w' ⟨A1, c1, rfl, hc, hD, hb⟩
  exact ⟨_, A1, _, c1, rfl, ⟨rfl, rfl, hc, by have := dl_add x y 40000 hl hm; unfold dl at this; omega, hD, digs_dg _⟩, hb⟩
theorem subI (x y : Int) (s s2 : Bool) (A B : Option Addr) (n m c d : Nat) (w : World) (hx : IsN w x s A n c) (hy : IsN w y s2 B m d) (hl : n ≤ 40000) (hm : m ≤ 40000) :
    Calls Try.prog 16 #[.agg #[.bool s, .slice A n c], .agg #[.bool s2, .slice B m d]] w (RetI (x - y) w) := by
  obtain ⟨rfl, rfl, hx⟩ := hx
  obtain ⟨rfl, rfl, hy⟩ := hy
  unfold dl at hl hm
  refine (wSub_any x y A B c d w hx hy (by omega) (by omega)).mono ?_
  rintro e w' ⟨A1, c1, rfl, hc, hD, hb⟩
  exact ⟨_, A1, _, c1, rfl, ⟨rfl, rfl, hc, by have := dl_sub x y 40000 hl hm; unfold dl at this; omega, hD, digs_dg _⟩, hb⟩
theorem mulI (x y : Int) (s s2 : Bool) (A B : Option Addr) (n m c d : Nat) (w : World) (hx : IsN w x s A n c) (hy : IsN w y s2 B m d) (hl : n ≤ 40000) (hm : m ≤ 40000) :
    Calls Try.prog 11 #[.agg #[.bool s, .slice A n c], .agg #[.bool s2, .slice B m d]] w (RetI (x * y) w) := by
  obtain ⟨rfl, rfl, hx⟩ := hx
  obtain ⟨rfl, rfl, hy⟩ := hy
  unfold dl at hl hm
  refine (wMul_any x y A B c d w hx hy (by omega)).mono ?_
  rintro e w' ⟨A1, c1, rfl, hc, hD, hb⟩
  exact ⟨_, A1, _, c1, rfl, ⟨rfl, rfl, hc, by have := dl_mul x y; unfold dl at this; omega, hD, digs_dg _⟩, hb⟩
theorem divI (x y : Int) (s s2 : Bool) (A B : Option Addr) (n m c d : Nat) (w : World) (hx : IsN w x s A n c) (hy : IsN w y s2 B m d) (hl : n ≤ 40000) (hm : m ≤ 40000) (h0 : 0 < y) :
    Calls Try.prog 28 #[.agg #[.bool s, .slice A n c], .agg #[.bool s2, .slice B m d]] w (RetII (x / y) (x % y) w) := by
  obtain ⟨rfl, rfl, hx⟩ := hx
  obtain ⟨rfl, rfl, hy⟩ := hy
  refine (wDiv_any x y A B c d w hx hy hl hm h0).mono ?_
  rintro e w' ⟨A1, k1, A2, k2, rfl, h1, h2, hb⟩
  exact ⟨_, A1, _, k1, _, A2, _, k2, rfl, ⟨rfl, rfl, h1⟩, ⟨rfl, rfl, h2⟩, hb⟩
theorem lessI (x y : Int) (s s2 : Bool) (A B : Option Addr) (n m c d : Nat) (w : World) (hx : IsN w x s A n c) (hy : IsN w y s2 B m d) :
    Calls Try.prog 17 #[.slice A n c, .slice B m d] w fun e w' => e = .returned (.bool (decide (x.natAbs < y.natAbs))) ∧ Below w.heap.size w w' := by
  obtain ⟨rfl, rfl, hx⟩ := hx
  obtain ⟨rfl, rfl, hy⟩ := hy
  exact wLess_any A B c d x.natAbs y.natAbs w hx hy

set_option maxHeartbeats 1000000 in
theorem floorI (x y : Int) (s s2 : Bool) (A B : Option Addr) (n m c d : Nat) (w : World) (hx : IsN w x s A n c) (hy : IsN w y s2 B m d) (hl : n ≤ 40000) (hm : m ≤ 40000) (h0 : 0 < y) :
    Calls Try.prog 10 #[.agg #[.bool s, .slice A n c], .agg #[.bool s2, .slice B m d]] w (RetI (x / y) w) := by
  have DV := Lib.hid (fun w' (hb : Below w.heap.size w w') => divI x y s s2 A B n m c d w' (hx.below hb) (hy.below hb) hl hm h0)
  clear hx hy
  go_enter Try.func10, Try.ntmps10
  go_wp2_with (go_at_call 28; refine (DV.out _ (by repeat (first | with_reducible exact Below.refl _ _ | with_reducible refine Below.drew ?_ | with_reducible refine below_alloc ?_ _ | (with_reducible refine below_set ?_ ?_ _; rotate_left; (first | omega | (simp <;> omega))) | with_reducible refine below_drewN ?_ _ | with_reducible refine below_tr ?_ (by with_reducible assumption)))).mono ?_; rintro e w1 ⟨s3, A3, n3, c3, s4, A4, n4, c4, rfl, h1, h2, hb1⟩; have z1 := hb1.size; (try simp at z1); have KR := (show Blk _ (w.heap.size + 1 + 1) #[.bool false, .slice none 0 0] from (by repeat (first | with_reducible assumption | (with_reducible refine Blk.newAt _ _ _ _ ?_; (first | rfl | (simp; done))) | with_reducible refine Blk.drew ?_ | with_reducible refine Blk.alloc ?_ _ | with_reducible refine Blk.drewN ?_ _ | with_reducible apply Blk.put2 | (with_reducible refine Blk.far ?_ ?_ _; rotate_left; (first | omega | (simp <;> omega))) | with_reducible refine Blk.below ?_ (by with_reducible assumption)))).below hb1; have cR := Blk.cell KR; have fR := Blk.frozen KR; have lcR := Blk.lt KR; have cRb := fun o1 o2 => Blk.cell ((KR.alloc o1).alloc o2); have fRb := fun o1 o2 => Blk.frozen ((KR.alloc o1).alloc o2); have H1 := Lib.hid h1; clear h1 h2)
  exact bodyPost_ret (v := .agg #[.bool s3, .slice A3 n3 c3]) (by simp [results, Try.results10, go_sem, cRb]) rfl ⟨s3, A3, n3, c3, rfl, IsN.put (IsN.alloc (IsN.alloc H1.out _) _) ((KR.alloc _).alloc _) _ _, (by repeat (first | with_reducible exact Below.refl _ _ | with_reducible refine Below.drew ?_ | with_reducible refine below_alloc ?_ _ | (with_reducible refine below_set ?_ ?_ _; rotate_left; (first | omega | (simp <;> omega))) | with_reducible refine below_drewN ?_ _ | with_reducible refine below_tr ?_ (by with_reducible assumption)))⟩
end Go.Proofs.Ythopiolbnhjgnaa
