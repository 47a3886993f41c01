/- Proved: for every sensor and every plot the law of a plot a quarter of a turn further (layer 10, PolarQuarter) returns true and leaves its arguments as they were. Conditions: those of the given card alone. -/
import Derived.Test.YthopiolbnhjgnaaDoorFrame
import Derived.Test.YthopiolbnhjgnaaDoorCards
import Derived.Test.YthopiolbnhjgnaaDoorTie
import Derived.Test.YthopiolbnhjgnaaDoorPolarL
import Derived.Lib.SmallJoins
import Derived.SevenTiedAt
import Derived.OpenShut
set_option linter.unusedVariables false
namespace Go.Proofs.YthopiolbnhjgnaaDoor
open Go.ChangeShapes Go.WideShapes Go.RowKit Go.Joins
theorem quarter_cellsS : Tryd.prog.cellsOf 46 = 2 := by kernel_rfl
theorem quarter_cellsP : Tryd.prog.cellsOf 49 = 3 := by kernel_rfl
set_option maxRecDepth 100000 in
theorem quarter_lifted (os : Os) (started : os.Started) (H : Type) (enc : TypeId × Value → H) :
    ReturnsInHanded {} Tryd.checked os 8 .any (fun w args => (Rows.polarQuarterSpec.pre enc Tryd.prog Tryd.f8 [] false w args ∧ laidMetH Tryd.prog [("errors.errorType", Rows.laid_errors_errorType)] w) ∧ sizedMet enc Tryd.prog Tryd.f8 (OpenSpec.ofChange Rows.polarQuarterSpec) false w args)
      (Rows.polarQuarterSpec.post enc Tryd.prog Tryd.f8 false true false false) := by
  refine returnsInHanded_of_change_and (C := Tryd.checked) (X := fun w _ => laidMetH Tryd.prog [("errors.errorType", Rows.laid_errors_errorType)] w) (fun _ _ _ hh h => h.of_heap hh) Tryd.own started (by kernel_rfl) Tryd.func8
    (ChangeSpec.witness_at (enc := enc) (C := Tryd.checked) (os := os) (X := fun w _ => laidMetH Tryd.prog [("errors.errorType", Rows.laid_errors_errorType)] w) false (laidWorld os) #[.agg #[.int .i64 0, .int .i64 0], .agg #[.int .i64 0, .int .u16 0, .int .i64 0]] 8 rfl (by kernel_rfl) (by kernel_rfl) (by kernel_rfl) (by kernel_rfl) (by kernel_rfl) (laidWorld_met os _)) ?_
  intro W base args ds gs before hval0 hW _ _ hL _
  have hval : ∀ (j : Nat) t v, Tryd.f8.params[j]? = some t → args[j]? = some v → Value.okWide Tryd.prog W .any base t v := hval0
  have hW' := hW
  obtain ⟨p, q, hA0, hV0, rfl, hfz, hnd⟩ := hW
  have hA : DataW.TrodAll enc Tryd.prog W 0 (fun _ => true) true Tryd.f8.params.toList args.toList ds p := hA0
  have hV : DataW.TrodVars enc Tryd.prog W (fun _ => true) [] gs q := hV0
  rw [Tryd.params8] at hA hval
  obtain ⟨v0, v1, d0, d1, p0, p1, rfl, rfl, rfl, h0, h1⟩ := trodAll_two hA
  obtain ⟨c0, c1, y0, y1, m, rfl, rfl, rfl, hy0, hy1⟩ := open_agg2 Tryd.underlying46 (by kernel_rfl) quarter_cellsS (hval 0 46 v0 rfl rfl) h0
  obtain ⟨R, e0, rfl, wR⟩ := DataW.trod_int Tryd.underlying2 hy0
  obtain ⟨T, e1, rfl, wT⟩ := DataW.trod_int Tryd.underlying2 hy1
  obtain ⟨c2, c3, c4, y2, y3, y4, m2, rfl, rfl, rfl, hy2, hy3, hy4⟩ := open_agg3 Tryd.underlying49 (by kernel_rfl) quarter_cellsP (hval 1 49 v1 rfl rfl) h1
  obtain ⟨far, e2, rfl, wf⟩ := DataW.trod_int Tryd.underlying2 hy2
  obtain ⟨az, e3, rfl, wa⟩ := DataW.trod_int Tryd.underlying47 hy3
  obtain ⟨tm, e4, rfl, wt⟩ := DataW.trod_int Tryd.underlying2 hy4
  simp at e0 e1 e2 e3 e4
  subst e0 e1 e2 e3 e4
  clear hA0 hval0
  have hE := etype_of_laid hL
  obtain ⟨rfl, rfl⟩ : gs = [] ∧ q = [] := by
    cases gs with
    | nil => exact ⟨rfl, hV⟩
    | cons g r => exact absurd hV (by intro h; cases h)
  simp only [List.append_nil] at hW'
  have bu := bounds_u16 wa
  have sS : ∀ (W' : World) (sp : Nat → Bool), DataW.Trod enc Tryd.prog W' 0 sp true 46 (.agg #[.int .i64 R, .int .i64 T]) (.agg [.lit (.int .i64 R), .lit (.int .i64 T)]) [] := fun W' sp =>
    shut_agg2 (y0 := (.lit (.int .i64 R), [])) (y1 := (.lit (.int .i64 T), [])) Tryd.underlying46 (by kernel_rfl) quarter_cellsS ⟨1, by simp [DataW.trod, Tryd.underlying2, wR]⟩ ⟨1, by simp [DataW.trod, Tryd.underlying2, wT]⟩
  have sP : ∀ (W' : World) (sp : Nat → Bool), DataW.Trod enc Tryd.prog W' 0 sp true 49 (.agg #[.int .i64 far, .int .u16 az, .int .i64 tm]) (.agg [.lit (.int .i64 far), .lit (.int .u16 az), .lit (.int .i64 tm)]) [] := fun W' sp =>
    shut_agg3 (y0 := (.lit (.int .i64 far), [])) (y1 := (.lit (.int .u16 az), [])) (y2 := (.lit (.int .i64 tm), [])) Tryd.underlying49 (by kernel_rfl) quarter_cellsP ⟨1, by simp [DataW.trod, Tryd.underlying2, wf]⟩ ⟨1, by simp [DataW.trod, Tryd.underlying47, wa]⟩ ⟨1, by simp [DataW.trod, Tryd.underlying2, wt]⟩
  refine (quarter_any R T far az tm W hE bu.1 bu.2).mono fun e W' ⟨he, hg⟩ => ?_
  subst he
  have e1 : Rows.polarQuarterSpec.fn H ([.agg [.lit (.int .i64 R), .lit (.int .i64 T)], .agg [.lit (.int .i64 far), .lit (.int .u16 az), .lit (.int .i64 tm)]] ++ []) = { results := [.lit (.bool true)], args := [.agg [.lit (.int .i64 R), .lit (.int .i64 T)], .agg [.lit (.int .i64 far), .lit (.int .u16 az), .lit (.int .i64 tm)]] } := by simp [Rows.polarQuarterSpec]
  refine ⟨_, rfl, _, _, _, [], [], [], hW', ?_, ?_, ?_, hg.frame _, fun h => by cases h⟩
  · rw [e1]; exact trodAll_mk1 (shut_bool Tryd.underlying4 true)
  · rw [e1]; exact trodAll_mk2 (sS _ _) (sP _ _)
  · rw [e1]; rfl

theorem quarter_row : Rows.PolarQuarterSaid :=
  OpenClaim.holds_of_wide 8 Tryd.f8 rfl rfl rfl rfl rfl rfl rfl ⟨rfl, rfl, rfl, rfl, rfl⟩ rfl rfl rfl rfl rfl (by kernel_rfl) Tryd.func8 (by kernel_rfl)
    (of_decide_eq_true (by kernel_rfl)) (by unfold Func.isWrapper; rw [if_neg (of_decide_eq_false (by kernel_rfl))]; exact ⟨rfl, rfl⟩)
    (fun os started H enc _ => quarter_lifted os started H enc)

/-- The statement. -/
theorem quarter_card : Rows.PolarQuarterCardSaid :=
  Claim7.holds_tied_plain_at .later [] [.handle] true (true, "ba71b96fb0a9c84bad8e5d4fd3dfb6f949addf8cdd8f2659bc5f8b44f9a9a757") true
    quarter_row (fun _ h => by cases h) (by kernel_rfl) (fun _ h => by cases h) polarQuarter_row_tie rfl ⟨rfl, rfl⟩ (by kernel_rfl) rfl
    (fun f fn hf hfn => by
      obtain rfl : f = 8 := Option.some.inj ((show Tryd.prog.funcNamed "radome/radomelaw10.PolarQuarter" = some 8 by kernel_rfl).symm.trans hf) |>.symm
      obtain rfl : fn = Tryd.f8 := (Option.some.inj (Tryd.func8.symm.trans hfn)).symm
      exact ⟨by kernel_rfl, fun j t ht => by
        rw [Tryd.params8] at ht
        have h3 : t = 46 ∨ t = 49 := by
          rcases j with _ | _ | j
          · left; simpa using ht.symm
          · right; simpa using ht.symm
          · simp at ht
        rcases h3 with rfl | rfl
        · exact (show Tryd.prog.wantsStandIn 46 = false by kernel_rfl)
        · exact (show Tryd.prog.wantsStandIn 49 = false by kernel_rfl)⟩)
    (by kernel_rfl)
#print axioms quarter_card
end Go.Proofs.YthopiolbnhjgnaaDoor
