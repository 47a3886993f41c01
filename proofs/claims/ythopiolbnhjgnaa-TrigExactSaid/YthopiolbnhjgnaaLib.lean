/- Small laws on worlds that all walks of this seat use. -/
import Derived.Test.YthopiolbnhjgnaaProg
import Derived.WalkKit
import Derived.WalkSpells
import Derived.WalkLawsBesides
import Derived.Deep.RegionHeld3
import Derived.Deep.QuietTactic
import Derived.BigQuiet
import Derived.Laws.Externs
import Derived.BigRegion
import Derived.IntWalk
import Derived.Lib.Hide
import Derived.Deep.DeepCutAuto
import Derived.Deep.MidRow
namespace Go.Proofs.Ythopiolbnhjgnaa
open Go.RowKit

theorem below_alloc {W w : World} (h : Below W.heap.size W w) (o : Obj) : Below W.heap.size W (w.alloc o) := h.alloc h.size o
theorem below_set {W w : World} (h : Below W.heap.size W w) {p : Addr} (hp : W.heap.size ≤ p.block) (u : Value) : Below W.heap.size W (w.setCell p u) := h.setCell hp u
theorem below_tr {W a b : World} (h : Below W.heap.size W a) (k : Below a.heap.size a b) : Below W.heap.size W b := h.trans (k.mono h.size)
theorem below_drewN {W w : World} (h : Below W.heap.size W w) (n : Nat) : Below W.heap.size W (w.drewN n) := by
  exact ⟨h.os, h.tape, h.output, h.size, h.block⟩

theorem bcell {W w1 : World} (hb : Below W.heap.size W w1) : (∀ b o, b < W.heap.size → w1.cell? ⟨b, o, none⟩ = W.cell? ⟨b, o, none⟩) ∧ (∀ b o, b < W.heap.size → w1.frozen? ⟨b, o, none⟩ = W.frozen? ⟨b, o, none⟩) :=
  ⟨fun b o h => hb.cell (p := ⟨b, o, none⟩) h, fun b o h => hb.frozen (p := ⟨b, o, none⟩) h⟩
/-- A block of cells, whole. -/
def Blk (w : World) (g : Nat) (cs : Array Value) : Prop := ∃ T, w.heap[g]? = some (.cells cs T (0, 0))
theorem Blk.lt {w : World} {g : Nat} {cs : Array Value} (h : Blk w g cs) : g < w.heap.size := by
  obtain ⟨T, h⟩ := h
  exact (Array.getElem?_eq_some_iff.1 h).1
theorem Blk.cell {w : World} {g : Nat} {cs : Array Value} (h : Blk w g cs) (i : Nat) : w.cell? ⟨g, i, none⟩ = cs[i]? := by
  obtain ⟨T, h⟩ := h
  exact cell_of_row w g i cs T (0, 0) h
theorem Blk.frozen {w : World} {g : Nat} {cs : Array Value} (h : Blk w g cs) (i : Nat) : w.frozen? ⟨g, i, none⟩ = false := by
  obtain ⟨T, h⟩ := h
  simp [World.frozen?, h]
theorem Blk.below {w w1 : World} {g : Nat} {cs : Array Value} (h : Blk w g cs) (hb : Below w.heap.size w w1) : Blk w1 g cs := by
  obtain ⟨T, k⟩ := id h
  exact ⟨T, (hb.block g h.lt).trans k⟩
theorem Blk.alloc {w : World} {g : Nat} {cs : Array Value} (h : Blk w g cs) (o : Obj) : Blk (w.alloc o) g cs := by
  obtain ⟨T, k⟩ := id h
  exact ⟨T, (Below.heap_alloc w o g h.lt).trans k⟩
theorem Blk.new (w : World) (cs : Array Value) (T : TypeId) : Blk (w.alloc (.cells cs T)) w.heap.size cs := ⟨T, heap_alloc_new w _⟩
theorem Blk.new1 (w : World) (o : Obj) (cs : Array Value) (T : TypeId) : Blk ((w.alloc o).alloc (.cells cs T)) (w.heap.size + 1) cs := by
  have h := Blk.new (w.alloc o) cs T
  rwa [World.size_alloc] at h
theorem Blk.new2 (w : World) (o o2 : Obj) (cs : Array Value) (T : TypeId) : Blk (((w.alloc o).alloc o2).alloc (.cells cs T)) (w.heap.size + 1 + 1) cs := by
  have h := Blk.new ((w.alloc o).alloc o2) cs T
  rwa [World.size_alloc, World.size_alloc] at h
theorem Blk.new3 (w : World) (o o2 o3 : Obj) (cs : Array Value) (T : TypeId) : Blk ((((w.alloc o).alloc o2).alloc o3).alloc (.cells cs T)) (w.heap.size + 1 + 1 + 1) cs := by
  have h := Blk.new (((w.alloc o).alloc o2).alloc o3) cs T
  rwa [World.size_alloc, World.size_alloc, World.size_alloc] at h
theorem Blk.drew {w : World} {g : Nat} {cs : Array Value} (h : Blk w g cs) : Blk w.drew g cs := h
theorem Blk.drewN {w : World} {g : Nat} {cs : Array Value} (h : Blk w g cs) (n : Nat) : Blk (w.drewN n) g cs := h
theorem Blk.put {w : World} {g : Nat} {cs cs' : Array Value} (h : Blk w g cs) (i : Nat) (u : Value) (e : cs.setIfInBounds i u = cs') : Blk (w.setCell ⟨g, i, none⟩ u) g cs' := by
  obtain ⟨T, k⟩ := h
  exact ⟨T, by rw [← e]; simp [World.setCell, Array.getElem?_modify, k]⟩
theorem Blk.far {w : World} {g : Nat} {cs : Array Value} (h : Blk w g cs) {p : Addr} (hp : g ≠ p.block) (u : Value) : Blk (w.setCell p u) g cs := by
  obtain ⟨T, k⟩ := h
  exact ⟨T, (Below.heap_setCell w p u g hp).trans k⟩

theorem Blk.put2 {w : World} {g : Nat} {a b : Value} (h : Blk w g #[a, b]) (x y : Value) : Blk ((w.setCell ⟨g, 0, none⟩ x).setCell ⟨g, 1, none⟩ y) g #[x, y] := ((h.put 0 x rfl).put 1 y rfl)
theorem Blk.put3 {w : World} {g : Nat} {a b c : Value} (h : Blk w g #[a, b, c]) (x y z : Value) : Blk (((w.setCell ⟨g, 0, none⟩ x).setCell ⟨g, 1, none⟩ y).setCell ⟨g, 2, none⟩ z) g #[x, y, z] := (((h.put 0 x rfl).put 1 y rfl).put 2 z rfl)
theorem Blk.put5 {w : World} {g : Nat} {a b c d e : Value} (h : Blk w g #[a, b, c, d, e]) (x y z u v : Value) : Blk (((((w.setCell ⟨g, 0, none⟩ x).setCell ⟨g, 1, none⟩ y).setCell ⟨g, 2, none⟩ z).setCell ⟨g, 3, none⟩ u).setCell ⟨g, 4, none⟩ v) g #[x, y, z, u, v] := (((((h.put 0 x rfl).put 1 y rfl).put 2 z rfl).put 3 u rfl).put 4 v rfl)

def writeFrom : Array Value → Nat → List Value → Array Value
  | cs, _, [] => cs
  | cs, o, v :: r => writeFrom (cs.setIfInBounds o v) (o + 1) r
theorem Blk.setCells {g : Nat} : ∀ (vs : List Value) (o : Nat) (w : World) (cs : Array Value), Blk w g cs → Blk (w.setCells g o vs) g (writeFrom cs o vs)
  | [], _, _, _, h => h
  | v :: r, o, w, cs, h => Blk.setCells r (o + 1) _ _ (h.put o v rfl)
theorem Blk.there {w : World} {g : Nat} {cs : Array Value} (h : Blk w g cs) (o n : Nat) (hn : o + n ≤ cs.size) : w.there g o n := fun j hj => by
  rw [h.cell, h.frozen, Array.getElem?_eq_getElem (by omega)]
  exact ⟨rfl, rfl⟩
theorem below_setCells {W : World} {g : Nat} (hg : W.heap.size ≤ g) : ∀ (vs : List Value) (o : Nat) (w : World), Below W.heap.size W w → Below W.heap.size W (w.setCells g o vs)
  | [], _, _, h => h
  | v :: r, o, w, h => below_setCells hg r (o + 1) _ (below_set h hg v)
theorem Blk.setCells_far {g g' : Nat} (hg : g' ≠ g) {cs : Array Value} : ∀ (vs : List Value) (o : Nat) (w : World), Blk w g' cs → Blk (w.setCells g o vs) g' cs
  | [], _, _, h => h
  | v :: r, o, w, h => Blk.setCells_far hg r (o + 1) _ (h.far hg v)
theorem setCells_size {g : Nat} : ∀ (vs : List Value) (o : Nat) (w : World), (w.setCells g o vs).heap.size = w.heap.size
  | [], _, _ => rfl
  | v :: r, o, w => by
    rw [World.setCells, setCells_size r]
    simp

theorem ret_int {k : IntKind} {a b : Int} (h : a = b) : Ending.returned (.int k a) = .returned (.int k b) := by rw [h]
theorem ret_ib {k : IntKind} {a b : Int} {x y : Bool} (h : a = b) (h2 : x = y) : Ending.returned (.tuple #[.int k a, .bool x]) = .returned (.tuple #[.int k b, .bool y]) := by rw [h, h2]
theorem ret_ibe {k : IntKind} {a b : Int} {x y : Bool} {v : Value} (h : a = b) (h2 : x = y) : Ending.returned (.tuple #[.int k a, .bool x, v]) = .returned (.tuple #[.int k b, .bool y, v]) := by rw [h, h2]
theorem ret_ie {k : IntKind} {a b : Int} {v : Value} (h : a = b) : Ending.returned (.tuple #[.int k a, v]) = .returned (.tuple #[.int k b, v]) := by rw [h]
theorem ret_ii {k l : IntKind} {a b c d : Int} (h : a = b) (h2 : c = d) : Ending.returned (.tuple #[.int k a, .int l c]) = .returned (.tuple #[.int k b, .int l d]) := by rw [h, h2]
theorem ret_iie {k l : IntKind} {a b c d : Int} {v : Value} (h : a = b) (h2 : c = d) : Ending.returned (.tuple #[.int k a, .int l c, v]) = .returned (.tuple #[.int k b, .int l d, v]) := by rw [h, h2]
theorem ret_bool {a b : Bool} (h : a = b) : Ending.returned (.bool a) = .returned (.bool b) := by rw [h]

end Go.Proofs.Ythopiolbnhjgnaa
