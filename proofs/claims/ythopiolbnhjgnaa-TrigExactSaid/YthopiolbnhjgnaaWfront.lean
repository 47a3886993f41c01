/- Wide numbers of the reference: a digit put in front of a row. -/
import Derived.Test.YthopiolbnhjgnaaWmul
set_option linter.unusedSimpArgs false
set_option linter.unusedVariables false
set_option maxRecDepth 20000
namespace Go.Proofs.Ythopiolbnhjgnaa
open Go.RowKit



theorem wp_append_ran {P : Program} {w : World} {o : Oper} {a : Act} {K : Act → World → Prop} {Q : Exit → Act → World → Prop} (s x : Operand) (t : TypeId)
    (ho : o.op = .call { callee := .builtin .append, args := #[s, x], argTypes := #[t, t] }) (v vx : Value) (hs : a.eval s = v) (hx : a.eval x = vx) (v' : Value) (w' : World)
    (hr : (Builtin.append_ #[t, t] o.type #[v, vx]).run P w = .ok v' w') (h : K (a.put o.dst v') w') : o.wp P a w K Q := by
  unfold Oper.wp execOp
  simp only [ho, resolve, invoke, builtin, Sem.run_bind, Sem.run_pure, Result.andThen_ok, List.map_toArray, List.map_cons, List.map_nil, hs, hx, hr]
  exact h
theorem wpList_append_ran {P : Program} {w : World} {ops : Array Oper} {rest : List Oper} {o : Oper} {a : Act} {Q : Exit → Act → World → Prop} (hgd : o.guard = none) (s x : Operand) (t : TypeId)
    (ho : o.op = .call { callee := .builtin .append, args := #[s, x], argTypes := #[t, t] }) (v vx : Value) (hs : a.eval s = v) (hx : a.eval x = vx) (v' : Value) (w' : World)
    (hr : (Builtin.append_ #[t, t] o.type #[v, vx]).run P w = .ok v' w') (h : wpList P ops Q rest (a.put o.dst v') w') : wpList P ops Q (o :: rest) a w :=
  wpList_plain hgd fun _ hK => wp_append_ran s x t ho v vx hs hx v' w' hr (hK _ _ h)

/-- One number, a row behind it. -/
theorem run_front (w : World) (d : Int) (A : Option Addr) (c : Nat) (xs : List Int) (h : Dg w A xs) (hn : xs.length ≤ 200000) (ty : TypeId) :
    ∃ v' w', (Builtin.append_ #[26, 26] ty #[.slice (some ⟨w.heap.size, 0, none⟩) 1 1, .slice A xs.length c]).run Try.prog (w.alloc (.cells #[.int .i64 (d)] 3)) = .ok v' w' ∧ (∃ A1 k1, v' = .slice A1 (d :: xs).length k1 ∧ (d :: xs).length ≤ k1 ∧ Dg w' A1 (d :: xs) ∧ ∀ b o, A1 = some ⟨b, o, none⟩ → w.heap.size ≤ b) ∧ Below w.heap.size w w' := by
  obtain ⟨i0, hi0, hz0, hz1, hz2⟩ := info_parts info_int
  have hown : (w.alloc (.cells #[.int .i64 (d)] 3)).ownsRow w.heap.size 3 1 (.slice (some ⟨w.heap.size, 0, none⟩) 1 1) 1 ([d].map (Value.int .i64)) :=
    ⟨rfl, .inr ⟨w.heap.size, 1, #[.int .i64 (d)], rfl, Nat.le_refl _, heap_alloc_new w _, Nat.le_refl _, by decide, rfl, rfl⟩⟩
  cases A with
  | none =>
    have hx : xs = [] := by
      cases xs with
      | nil => rfl
      | cons x r => obtain ⟨b, o, hb, _⟩ := h 0 (by simp); cases hb
    subst hx
    refine ⟨.slice (some ⟨w.heap.size, 0, none⟩) 1 1, w.alloc (.cells #[.int .i64 (d)] 3), ?_, ⟨_, _, rfl, Nat.le_refl _, ?_, fun b o e => by cases e; exact Nat.le_refl _⟩, below_alloc (Below.refl _ _) _⟩
    · have hu := Try.underlying26
      simp [Builtin.append_, run_underlying (P := Try.prog) hu, sizeOf, typeInfo, hi0, Builtin.lenOf, run_firstCells_none, storeCells]
    · obtain ⟨A1, c1, e, h1, h2, _⟩ := Dg.of_own hown
      cases e
      exact h2
  | some a =>
    obtain ⟨v', w', hr, h2, h3, h4⟩ := run_append_own (P := Try.prog) (w.alloc (.cells #[.int .i64 (d)] 3)) w.heap.size 26 ty 3 i0 (.int .i64 0) 1 8 Try.underlying26 hi0 hz0 hz1 hz2 rfl (by decide) _ 1 _ hown a xs.length c (xs.map (Value.int .i64)) (by simp) (fun j u hj => by
      rw [List.getElem?_map] at hj
      obtain ⟨y, hy, rfl⟩ := Option.map_eq_some_iff.1 hj
      obtain ⟨hj2, rfl⟩ := List.getElem?_eq_some_iff.1 hy
      obtain ⟨b, o, hb, hc⟩ := h.alloc (.cells #[.int .i64 (d)] 3) j hj2
      cases hb
      rw [Addr.add_lit]
      exact hc) (fun u hu => by
        obtain ⟨y, _, rfl⟩ := List.mem_map.1 hu
        rfl) (by unfold maxLen; omega) (by omega) (by simp)
    refine ⟨v', w', hr, ?_, ?_⟩
    · rw [← List.map_append] at h2
      obtain ⟨A1, c1, e, h5, h6, h7⟩ := Dg.of_own h2
      exact ⟨A1, c1, e, h5, h6, fun b o e => (h7 b o e).1⟩
    · exact below_grown (below_alloc (Below.refl _ _) _) h3 hown (Nat.le_refl _)
end Go.Proofs.Ythopiolbnhjgnaa
