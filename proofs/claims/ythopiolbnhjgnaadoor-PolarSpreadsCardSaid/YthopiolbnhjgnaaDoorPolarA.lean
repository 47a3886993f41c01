/- A plot as a place: the checks, and a tally's sums of products, walked. -/
import Derived.Test.YthopiolbnhjgnaaDoorTrigD
import Derived.Test.YthopiolbnhjgnaaDoorPolarM
set_option linter.unusedSimpArgs false
set_option linter.unusedVariables false
set_option maxRecDepth 20000
namespace Go.Proofs.YthopiolbnhjgnaaDoor
open Go.RowKit




/-- Below, but for one block. -/
structure Bx (g : Nat) (w w' : World) : Prop where
  os : w'.os = w.os
  tape : w'.tape = w.tape
  output : w'.output = w.output
  size : w.heap.size ≤ w'.heap.size
  block : ∀ k, k < w.heap.size → k ≠ g → w'.heap[k]? = w.heap[k]?
theorem Bx.refl (g : Nat) (w : World) : Bx g w w := ⟨rfl, rfl, rfl, Nat.le_refl _, fun _ _ _ => rfl⟩
theorem Bx.trans {g : Nat} {a b c : World} (h : Bx g a b) (k : Bx g b c) : Bx g a c :=
  ⟨k.os.trans h.os, k.tape.trans h.tape, k.output.trans h.output, Nat.le_trans h.size k.size, fun i hi hg => (k.block i (Nat.lt_of_lt_of_le hi h.size) hg).trans (h.block i hi hg)⟩
theorem Bx.of_below {g : Nat} {a b : World} (h : Below a.heap.size a b) : Bx g a b := ⟨h.os, h.tape, h.output, h.size, fun k hk _ => h.block k hk⟩
theorem Bx.alloc {g : Nat} {a b : World} (h : Bx g a b) (o : Obj) : Bx g a (b.alloc o) := h.trans (.of_below (below_alloc (Below.refl _ _) o))
theorem Bx.drew {g : Nat} {a b : World} (h : Bx g a b) : Bx g a b.drew := ⟨h.os, h.tape, h.output, h.size, h.block⟩
theorem Bx.drewN {g : Nat} {a b : World} (h : Bx g a b) (n : Nat) : Bx g a (b.drewN n) := ⟨h.os, h.tape, h.output, h.size, h.block⟩
theorem Bx.set {g : Nat} {a b : World} (h : Bx g a b) (i : Nat) (u : Value) : Bx g a (b.setCell ⟨g, i, none⟩ u) :=
  ⟨h.os, h.tape, h.output, by have := h.size; simpa using this, fun k hk hg => (Below.heap_setCell b ⟨g, i, none⟩ u k hg).trans (h.block k hk hg)⟩
theorem Bx.setN {g : Nat} {a b : World} (h : Bx g a b) {p : Addr} (hp : a.heap.size ≤ p.block) (u : Value) : Bx g a (b.setCell p u) :=
  ⟨h.os, h.tape, h.output, by have := h.size; simpa using this, fun k hk hg => (Below.heap_setCell b p u k (by omega)).trans (h.block k hk hg)⟩
theorem Bx.below {g : Nat} {W a b : World} (h : Below W.heap.size W a) (k : Bx g a b) (hg : W.heap.size ≤ g) : Below W.heap.size W b :=
  ⟨k.os.trans h.os, k.tape.trans h.tape, k.output.trans h.output, Nat.le_trans h.size k.size, fun i hi => (k.block i (Nat.lt_of_lt_of_le hi h.size) (by omega)).trans (h.block i hi)⟩
theorem Blk.bx {w w1 : World} {g b : Nat} {cs : Array Value} (h : Blk w b cs) (hb : Bx g w w1) (hg : b ≠ g) : Blk w1 b cs := by
  obtain ⟨T, k⟩ := id h
  exact ⟨T, (hb.block b h.lt hg).trans k⟩
theorem turnOf_any (a : Int) (w : World) (h0 : 0 ≤ a) (h1 : a ≤ 65535) :
    Calls Tryd.prog 79 #[.int .u16 a] w fun e w' => e = .returned (.int .u32 (a * 65536)) ∧ w = w' := by
  go_enter Tryd.func79, Tryd.ntmps79
  go_wp2
  go_ret
  exact ⟨rfl, rfl⟩

theorem check_yes (R T : Int) (w : World) (h0 : 1 ≤ R) (h1 : R ≤ 17179869184) (h2 : 1 ≤ T) (h3 : T ≤ 268435456) :
    Calls Tryd.prog 29 #[.agg #[.int .i64 (R), .int .i64 (T)]] w fun e w' => e = .returned .nilIface ∧ Below w.heap.size w w' := by
  go_enter Tryd.func29, Tryd.ntmps29
  go_wp2
  go_ret
  exact ⟨rfl, (by repeat (first | with_reducible exact Below.refl _ _ | with_reducible refine Below.drew ?_ | with_reducible refine below_alloc ?_ _ | (with_reducible refine below_set ?_ ?_ _; rotate_left; (first | omega | (simp <;> omega))) | with_reducible refine below_drewN ?_ _ | with_reducible refine below_tr ?_ (by with_reducible assumption)))⟩
/-- May a sensor be? -/
def mayS (R T : Int) : Bool := decide (1 ≤ R ∧ R ≤ 17179869184 ∧ 1 ≤ T ∧ T ≤ 268435456)
theorem check_no (R T : Int) (w : World) (h : mayS R T = false) :
    Calls Tryd.prog 29 #[.agg #[.int .i64 (R), .int .i64 (T)]] w fun e w' => e = .returned (.iface 115 (.int .i64 1)) ∧ Below w.heap.size w w' := by
  have h' : ¬ (1 ≤ R ∧ R ≤ 17179869184 ∧ 1 ≤ T ∧ T ≤ 268435456) := of_decide_eq_false h
  clear h
  by_cases a : R < 1
  · clear h'
    go_enter Tryd.func29, Tryd.ntmps29
    go_wp2
    go_ret
    exact ⟨rfl, (by repeat (first | with_reducible exact Below.refl _ _ | with_reducible refine Below.drew ?_ | with_reducible refine below_alloc ?_ _ | (with_reducible refine below_set ?_ ?_ _; rotate_left; (first | omega | (simp <;> omega))) | with_reducible refine below_drewN ?_ _ | with_reducible refine below_tr ?_ (by with_reducible assumption)))⟩
  · by_cases b : 17179869184 < R
    · clear h'
      go_enter Tryd.func29, Tryd.ntmps29
      go_wp2
      go_ret
      exact ⟨rfl, (by repeat (first | with_reducible exact Below.refl _ _ | with_reducible refine Below.drew ?_ | with_reducible refine below_alloc ?_ _ | (with_reducible refine below_set ?_ ?_ _; rotate_left; (first | omega | (simp <;> omega))) | with_reducible refine below_drewN ?_ _ | with_reducible refine below_tr ?_ (by with_reducible assumption)))⟩
    · by_cases c : T < 1
      · clear h'
        go_enter Tryd.func29, Tryd.ntmps29
        go_wp2
        go_ret
        exact ⟨rfl, (by repeat (first | with_reducible exact Below.refl _ _ | with_reducible refine Below.drew ?_ | with_reducible refine below_alloc ?_ _ | (with_reducible refine below_set ?_ ?_ _; rotate_left; (first | omega | (simp <;> omega))) | with_reducible refine below_drewN ?_ _ | with_reducible refine below_tr ?_ (by with_reducible assumption)))⟩
      · have d : 268435456 < T := by omega
        clear h'
        go_enter Tryd.func29, Tryd.ntmps29
        go_wp2
        go_ret
        exact ⟨rfl, (by repeat (first | with_reducible exact Below.refl _ _ | with_reducible refine Below.drew ?_ | with_reducible refine below_alloc ?_ _ | (with_reducible refine below_set ?_ ?_ _; rotate_left; (first | omega | (simp <;> omega))) | with_reducible refine below_drewN ?_ _ | with_reducible refine below_tr ?_ (by with_reducible assumption)))⟩

set_option maxHeartbeats 1000000 in
theorem tdot_any (g b o c b2 o2 c2 n k : Nat) (x y : Nat → Int) (ov : Bool) (w : World) (hn : n ≤ 64) (hk : k ≤ 62)
    (hx : ∀ i, i < n → w.cell? ⟨b, o + i, none⟩ = some (.int .i64 (x i))) (hy : ∀ i, i < n → w.cell? ⟨b2, o2 + i, none⟩ = some (.int .i64 (y i)))
    (bx : ∀ i, i < n → I64 (x i)) (bY : ∀ i, i < n → I64 (y i)) (h0 : 0 < n) (K : Blk w g #[.bool ov, .nilIface]) :
    Calls Tryd.prog 81 #[.pointer (some ⟨g, 0, none⟩), .slice (some ⟨b, o, none⟩) n c, .slice (some ⟨b2, o2, none⟩) n c2, .int .i64 k] w fun e w' =>
      e = .returned (.int .i64 (bnd (rq (dotS x y n) (2 ^ k)))) ∧ Blk w' g #[.bool (ov || ovr (rq (dotS x y n) (2 ^ k))), .nilIface] ∧ Bx g w w' := by
  have D := Lib.hid (dot_some b o c b2 o2 c2 n k x y w hn hk hx hy bx bY h0)
  clear hx hy bx bY
  cases ov
  all_goals
    go_enter Tryd.func81, Tryd.ntmps81
    go_wp2_with (first
      | (go_at_call 107; refine D.out.mono ?_; rintro e w1 ⟨rfl, hb1⟩; have z1 := hb1.size; (try simp at z1); have K1 := K.below hb1; have c1 := Blk.cell K1; have f1 := Blk.frozen K1; have lc1 := Blk.lt K1))
    go_ret
    exact ⟨rfl, by apply Blk.put K1; rfl, (Bx.of_below hb1).set _ _⟩
theorem tdot20 (g b o c b2 o2 c2 : Nat) (a d : Int) (ov : Bool) (w : World) (hx : w.cell? ⟨b, o, none⟩ = some (.int .i64 (a))) (hy : w.cell? ⟨b2, o2, none⟩ = some (.int .i64 (d))) (ha : I64 a) (hd : I64 d) (K : Blk w g #[.bool ov, .nilIface]) :
    Calls Tryd.prog 81 #[.pointer (some ⟨g, 0, none⟩), .slice (some ⟨b, o, none⟩) 1 c, .slice (some ⟨b2, o2, none⟩) 1 c2, .int .i64 (20)] w fun e w' =>
      e = .returned (.int .i64 (m20 a d)) ∧ Blk w' g #[.bool (ov || o20 a d), .nilIface] ∧ Bx g w w' := by
  have e : dotS (fun _ => a) (fun _ => d) 1 = a * d := by simp [dotS]
  refine (tdot_any g b o c b2 o2 c2 1 20 (fun _ => a) (fun _ => d) ov w (by decide) (by decide) (fun i hi => ?_) (fun i hi => ?_) (fun _ _ => ha) (fun _ _ => hd) (by decide) K).mono ?_
  · obtain rfl : i = 0 := by omega
    exact hx
  · obtain rfl : i = 0 := by omega
    exact hy
  · rw [e]
    exact fun _ _ h => h
theorem tdot30 (g b o c b2 o2 c2 : Nat) (a d : Int) (ov : Bool) (w : World) (hx : w.cell? ⟨b, o, none⟩ = some (.int .i64 (a))) (hy : w.cell? ⟨b2, o2, none⟩ = some (.int .i64 (d))) (ha : I64 a) (hd : I64 d) (K : Blk w g #[.bool ov, .nilIface]) :
    Calls Tryd.prog 81 #[.pointer (some ⟨g, 0, none⟩), .slice (some ⟨b, o, none⟩) 1 c, .slice (some ⟨b2, o2, none⟩) 1 c2, .int .i64 (30)] w fun e w' =>
      e = .returned (.int .i64 (m30 a d)) ∧ Blk w' g #[.bool (ov || o30 a d), .nilIface] ∧ Bx g w w' := by
  have e : dotS (fun _ => a) (fun _ => d) 1 = a * d := by simp [dotS]
  refine (tdot_any g b o c b2 o2 c2 1 30 (fun _ => a) (fun _ => d) ov w (by decide) (by decide) (fun i hi => ?_) (fun i hi => ?_) (fun _ _ => ha) (fun _ _ => hd) (by decide) K).mono ?_
  · obtain rfl : i = 0 := by omega
    exact hx
  · obtain rfl : i = 0 := by omega
    exact hy
  · rw [e]
    exact fun _ _ h => h
theorem tdotd (g b o c b2 o2 c2 : Nat) (a1 a2 d1 d2 : Int) (ov : Bool) (w : World) (hx : ∀ i, i < 2 → w.cell? ⟨b, o + i, none⟩ = some (.int .i64 (if i = 0 then a1 else a2))) (hy : ∀ i, i < 2 → w.cell? ⟨b2, o2 + i, none⟩ = some (.int .i64 (if i = 0 then d1 else d2))) (h1 : I64 a1) (h2 : I64 a2) (h3 : I64 d1) (h4 : I64 d2) (K : Blk w g #[.bool ov, .nilIface]) :
    Calls Tryd.prog 81 #[.pointer (some ⟨g, 0, none⟩), .slice (some ⟨b, o, none⟩) 2 c, .slice (some ⟨b2, o2, none⟩) 2 c2, .int .i64 (30)] w fun e w' =>
      e = .returned (.int .i64 (d30 a1 a2 d1 d2)) ∧ Blk w' g #[.bool (ov || e30 a1 a2 d1 d2), .nilIface] ∧ Bx g w w' := by
  have e : dotS (fun i => if i = 0 then a1 else a2) (fun i => if i = 0 then d1 else d2) 2 = a1 * d1 + a2 * d2 := by simp [dotS]
  refine (tdot_any g b o c b2 o2 c2 2 30 (fun i => if i = 0 then a1 else a2) (fun i => if i = 0 then d1 else d2) ov w (by decide) (by decide) hx hy (fun i _ => ?_) (fun i _ => ?_) (by decide) K).mono ?_
  · show I64 (if i = 0 then a1 else a2)
    split
    · exact h1
    · exact h2
  · show I64 (if i = 0 then d1 else d2)
    split
    · exact h3
    · exact h4
  · rw [e]
    exact fun _ _ h => h

set_option maxHeartbeats 1000000 in
theorem square_any (g : Nat) (n : Int) (ov : Bool) (w : World) (hn : I64 n) (K : Blk w g #[.bool ov, .nilIface]) :
    Calls Tryd.prog 126 #[.pointer (some ⟨g, 0, none⟩), .int .i64 (n)] w fun e w' => e = .returned (.int .i64 (m20 n n)) ∧ Blk w' g #[.bool (ov || o20 n n), .nilIface] ∧ Bx g w w' := by
  have lg := K.lt
  have HN := Lib.hid hn
  clear hn
  go_enter Tryd.func126, Tryd.ntmps126
  go_wp2_with (first
    | (go_at_call 81; refine (tdot20 _ _ _ _ _ _ _ n n ov _ ?_ ?_ HN.out HN.out (by repeat (first | with_reducible assumption | with_reducible exact Blk.new _ _ _ | with_reducible exact Blk.new1 _ _ _ _ | with_reducible exact Blk.new2 _ _ _ _ _ | with_reducible exact Blk.new3 _ _ _ _ _ _ | with_reducible refine Blk.drew ?_ | with_reducible refine Blk.alloc ?_ _ | with_reducible refine Blk.drewN ?_ _ | with_reducible apply Blk.put5 | (with_reducible refine Blk.far ?_ ?_ _; rotate_left; (first | omega | (simp <;> omega))) | with_reducible refine Blk.below ?_ (by with_reducible assumption) | (with_reducible refine Blk.bx ?_ (by with_reducible assumption) ?_; rotate_left; (first | omega | (simp <;> omega)))))).mono ?_; (first | (simp; done) | exact (Blk.cell (cs := #[.int .i64 (n)]) (by repeat (first | with_reducible assumption | with_reducible exact Blk.new _ _ _ | with_reducible exact Blk.new1 _ _ _ _ | with_reducible exact Blk.new2 _ _ _ _ _ | with_reducible exact Blk.new3 _ _ _ _ _ _ | with_reducible refine Blk.drew ?_ | with_reducible refine Blk.alloc ?_ _ | with_reducible refine Blk.drewN ?_ _ | with_reducible apply Blk.put5 | (with_reducible refine Blk.far ?_ ?_ _; rotate_left; (first | omega | (simp <;> omega))) | with_reducible refine Blk.below ?_ (by with_reducible assumption) | (with_reducible refine Blk.bx ?_ (by with_reducible assumption) ?_; rotate_left; (first | omega | (simp <;> omega))))) 0).trans rfl); (first | (simp; done) | exact (Blk.cell (cs := #[.int .i64 (n)]) (by repeat (first | with_reducible assumption | with_reducible exact Blk.new _ _ _ | with_reducible exact Blk.new1 _ _ _ _ | with_reducible exact Blk.new2 _ _ _ _ _ | with_reducible exact Blk.new3 _ _ _ _ _ _ | with_reducible refine Blk.drew ?_ | with_reducible refine Blk.alloc ?_ _ | with_reducible refine Blk.drewN ?_ _ | with_reducible apply Blk.put5 | (with_reducible refine Blk.far ?_ ?_ _; rotate_left; (first | omega | (simp <;> omega))) | with_reducible refine Blk.below ?_ (by with_reducible assumption) | (with_reducible refine Blk.bx ?_ (by with_reducible assumption) ?_; rotate_left; (first | omega | (simp <;> omega))))) 0).trans rfl); rintro e w1 ⟨rfl, K1, hb1⟩; have z1 := hb1.size; (try simp at z1)))
  go_ret
  exact ⟨rfl, K1, (by repeat (first | with_reducible exact Bx.refl _ _ | with_reducible refine Bx.drew ?_ | with_reducible refine Bx.alloc ?_ _ | with_reducible refine Bx.drewN ?_ _ | with_reducible refine Bx.trans ?_ (by with_reducible assumption) | with_reducible refine Bx.trans ?_ (Bx.of_below (by with_reducible assumption))))⟩
end Go.Proofs.YthopiolbnhjgnaaDoor
