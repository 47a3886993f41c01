/- Proved: for every sensor, plot and further range the law of the spreads (layer 10, PolarSpreads) returns true and leaves its arguments as they were. Conditions: those of the given card alone. -/
import Derived.Test.YthopiolbnhjgnaaDoorFrame
import Derived.Test.YthopiolbnhjgnaaDoorCards
import Derived.Test.YthopiolbnhjgnaaDoorTie
import Derived.Test.YthopiolbnhjgnaaDoorPolarT
import Derived.Lib.SmallJoins
import Derived.SevenTiedAt
import Derived.OpenShut
set_option linter.unusedVariables false
namespace Go.Proofs.YthopiolbnhjgnaaDoor
open Go.ChangeShapes Go.WideShapes Go.RowKit Go.Joins
theorem polarSpreads_cells0 : Tryd.prog.cellsOf 46 = 2 := by kernel_rfl
theorem polarSpreads_cells1 : Tryd.prog.cellsOf 49 = 3 := by kernel_rfl
set_option maxRecDepth 100000 in
theorem polarSpreads_lifted (os : Os) (started : os.Started) (H : Type) (enc : TypeId × Value → H) :
    ReturnsInHanded {} Tryd.checked os 7 .any (fun w args => (Rows.polarSpreadsSpec.pre enc Tryd.prog Tryd.f7 [] false w args ∧ laidMetH Tryd.prog [("errors.errorType", Rows.laid_errors_errorType)] w) ∧ sizedMet enc Tryd.prog Tryd.f7 (OpenSpec.ofChange Rows.polarSpreadsSpec) false w args)
      (Rows.polarSpreadsSpec.post enc Tryd.prog Tryd.f7 false true false false) := by
  refine returnsInHanded_of_change_and (C := Tryd.checked) (X := fun w _ => laidMetH Tryd.prog [("errors.errorType", Rows.laid_errors_errorType)] w) (fun _ _ _ hh h => h.of_heap hh) Tryd.own started (by kernel_rfl) Tryd.func7
    (ChangeSpec.witness_at (enc := enc) (C := Tryd.checked) (os := os) (X := fun w _ => laidMetH Tryd.prog [("errors.errorType", Rows.laid_errors_errorType)] w) false (laidWorld os) #[.agg #[.int .i64 0, .int .i64 0], .agg #[.int .i64 0, .int .u16 0, .int .i64 0], .int .i64 0] 8 rfl (by kernel_rfl) (by kernel_rfl) (by kernel_rfl) (by kernel_rfl) (by kernel_rfl) (laidWorld_met os _)) ?_
  intro W base args ds gs before hval0 hW _ _ hL _
  have hval : ∀ (j : Nat) t v, Tryd.f7.params[j]? = some t → args[j]? = some v → Value.okWide Tryd.prog W .any base t v := hval0
  have hW' := hW
  obtain ⟨p, q, hA0, hV0, rfl, hfz, hnd⟩ := hW
  have hA : DataW.TrodAll enc Tryd.prog W 0 (fun _ => true) true Tryd.f7.params.toList args.toList ds p := hA0
  have hV : DataW.TrodVars enc Tryd.prog W (fun _ => true) [] gs q := hV0
  rw [Tryd.params7] at hA hval
  obtain ⟨v0, v1, v2, d0, d1, d2, p0, p1, p2, rfl, rfl, rfl, h0, h1, h2⟩ := trodAll_three hA
  obtain ⟨c0, c1, y0, y1, m0, rfl, rfl, rfl, hy0, hy1⟩ := open_agg2 Tryd.underlying46 (by kernel_rfl) polarSpreads_cells0 (hval 0 46 v0 rfl rfl) h0
  obtain ⟨R, e0, rfl, wf_R⟩ := DataW.trod_int Tryd.underlying2 hy0
  obtain ⟨T, e1, rfl, wf_T⟩ := DataW.trod_int Tryd.underlying2 hy1
  simp at e0 e1
  subst e0 e1
  obtain ⟨c2, c3, c4, y2, y3, y4, m1, rfl, rfl, rfl, hy2, hy3, hy4⟩ := open_agg3 Tryd.underlying49 (by kernel_rfl) polarSpreads_cells1 (hval 1 49 v1 rfl rfl) h1
  obtain ⟨far, e2, rfl, wf_far⟩ := DataW.trod_int Tryd.underlying2 hy2
  obtain ⟨az, e3, rfl, wf_az⟩ := DataW.trod_int Tryd.underlying47 hy3
  obtain ⟨tm, e4, rfl, wf_tm⟩ := DataW.trod_int Tryd.underlying2 hy4
  simp at e2 e3 e4
  subst e2 e3 e4
  obtain ⟨more, rfl, rfl, rfl, wf_more⟩ := open_int Tryd.underlying2 (hval 2 2 v2 rfl rfl) h2
  clear hA0 hval0
  have hE := etype_of_laid hL
  obtain ⟨rfl, rfl⟩ : gs = [] ∧ q = [] := by
    cases gs with
    | nil => exact ⟨rfl, hV⟩
    | cons g r => exact absurd hV (by intro h; cases h)
  simp only [List.append_nil] at hW'
  have bd_more := bounds_i64 wf_more
  have bd_az := bounds_u16 wf_az
  have sh0 : ∀ (W' : World) (sp : Nat → Bool), DataW.Trod enc Tryd.prog W' 0 sp true 46 (.agg #[.int .i64 R, .int .i64 T]) (.agg [.lit (.int .i64 R), .lit (.int .i64 T)]) [] := fun W' sp =>
    shut_agg2 (y0 := (.lit (.int .i64 R), [])) (y1 := (.lit (.int .i64 T), [])) Tryd.underlying46 (by kernel_rfl) polarSpreads_cells0 ⟨1, by simp [DataW.trod, Tryd.underlying2, wf_R]⟩ ⟨1, by simp [DataW.trod, Tryd.underlying2, wf_T]⟩
  have sh1 : ∀ (W' : World) (sp : Nat → Bool), DataW.Trod enc Tryd.prog W' 0 sp true 49 (.agg #[.int .i64 far, .int .u16 az, .int .i64 tm]) (.agg [.lit (.int .i64 far), .lit (.int .u16 az), .lit (.int .i64 tm)]) [] := fun W' sp =>
    shut_agg3 (y0 := (.lit (.int .i64 far), [])) (y1 := (.lit (.int .u16 az), [])) (y2 := (.lit (.int .i64 tm), [])) Tryd.underlying49 (by kernel_rfl) polarSpreads_cells1 ⟨1, by simp [DataW.trod, Tryd.underlying2, wf_far]⟩ ⟨1, by simp [DataW.trod, Tryd.underlying47, wf_az]⟩ ⟨1, by simp [DataW.trod, Tryd.underlying2, wf_tm]⟩
  refine (spreads_any R T far az tm more W hE (show I64 more by unfold I64; omega) bd_az.1 bd_az.2).mono fun e W' ⟨he, hg⟩ => ?_
  subst he
  have e1 : Rows.polarSpreadsSpec.fn H ([.agg [.lit (.int .i64 R), .lit (.int .i64 T)], .agg [.lit (.int .i64 far), .lit (.int .u16 az), .lit (.int .i64 tm)], .lit (.int .i64 more)] ++ []) = { results := [.lit (.bool true)], args := [.agg [.lit (.int .i64 R), .lit (.int .i64 T)], .agg [.lit (.int .i64 far), .lit (.int .u16 az), .lit (.int .i64 tm)], .lit (.int .i64 more)] } := by simp [Rows.polarSpreadsSpec]
  refine ⟨_, rfl, _, _, _, [], [], [], hW', ?_, ?_, ?_, hg.frame _, fun h => by cases h⟩
  · rw [e1]; exact trodAll_mk1 (shut_bool Tryd.underlying4 true)
  · rw [e1]; exact trodAll_mk3 (sh0 _ _) (sh1 _ _) (shut_int Tryd.underlying2 wf_more)
  · rw [e1]; rfl

theorem polarSpreads_row : Rows.PolarSpreadsSaid :=
  OpenClaim.holds_of_wide 7 Tryd.f7 rfl rfl rfl rfl rfl rfl rfl ⟨rfl, rfl, rfl, rfl, rfl⟩ rfl rfl rfl rfl rfl (by kernel_rfl) Tryd.func7 (by kernel_rfl)
    (of_decide_eq_true (by kernel_rfl)) (by unfold Func.isWrapper; rw [if_neg (of_decide_eq_false (by kernel_rfl))]; exact ⟨rfl, rfl⟩)
    (fun os started H enc _ => polarSpreads_lifted os started H enc)

/-- The statement. -/
theorem polarSpreads_card : Rows.PolarSpreadsCardSaid :=
  Claim7.holds_tied_plain_at .later [] [.handle] true (true, "ba71b96fb0a9c84bad8e5d4fd3dfb6f949addf8cdd8f2659bc5f8b44f9a9a757") true
    polarSpreads_row (fun _ h => by cases h) (by kernel_rfl) (fun _ h => by cases h) polarSpreads_row_tie rfl ⟨rfl, rfl⟩ (by kernel_rfl) rfl
    (fun f fn hf hfn => by
      obtain rfl : f = 7 := Option.some.inj ((show Tryd.prog.funcNamed "radome/radomelaw10.PolarSpreads" = some 7 by kernel_rfl).symm.trans hf) |>.symm
      obtain rfl : fn = Tryd.f7 := (Option.some.inj (Tryd.func7.symm.trans hfn)).symm
      exact ⟨by kernel_rfl, fun j t ht => by
        rw [Tryd.params7] at ht
        have h3 : t = 46 ∨ t = 49 ∨ t = 2 := by
          rcases j with _ | _ | _ | j
          · left; simpa using ht.symm
          · right; left; simpa using ht.symm
          · right; right; simpa using ht.symm
          · simp at ht
        rcases h3 with rfl | rfl | rfl
        · exact (show Tryd.prog.wantsStandIn 46 = false by kernel_rfl)
        · exact (show Tryd.prog.wantsStandIn 49 = false by kernel_rfl)
        · exact (show Tryd.prog.wantsStandIn 2 = false by kernel_rfl)⟩)
    (by kernel_rfl)
#print axioms polarSpreads_card
end Go.Proofs.YthopiolbnhjgnaaDoor
