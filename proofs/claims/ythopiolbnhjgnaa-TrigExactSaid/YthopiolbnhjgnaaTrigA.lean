/- The angles of the program: the steps of a pair, walked. -/
import Derived.Test.YthopiolbnhjgnaaQmul
import Derived.Test.YthopiolbnhjgnaaTrigM
set_option linter.unusedSimpArgs false
set_option linter.unusedVariables false
set_option maxRecDepth 20000
namespace Go.Proofs.Ythopiolbnhjgnaa
open Go.RowKit


def angA : Array Value := #[
  .int .i64 576460752303423488, .int .i64 340304653033718298, .int .i64 179807632645220259, .int .i64 91273161881380487,
  .int .i64 45813697873323707, .int .i64 22929182573009054, .int .i64 11467389120678282, .int .i64 5734044481687724,
  .int .i64 2867065987018958, .int .i64 1433538461969102, .int .i64 716769914547871, .int .i64 358385042719534,
  .int .i64 179192532040472, .int .i64 89596267355325, .int .i64 44798133844548, .int .i64 22399066943135,
  .int .i64 11199533474175, .int .i64 5599766737413, .int .i64 2799883368747, .int .i64 1399941684379,
  .int .i64 699970842190, .int .i64 349985421095, .int .i64 174992710548, .int .i64 87496355274,
  .int .i64 43748177637, .int .i64 21874088818, .int .i64 10937044409, .int .i64 5468522205,
  .int .i64 2734261102, .int .i64 1367130551, .int .i64 683565276, .int .i64 341782638,
  .int .i64 170891319, .int .i64 85445659, .int .i64 42722830, .int .i64 21361415,
  .int .i64 10680707, .int .i64 5340354, .int .i64 2670177, .int .i64 1335088]

def zer40 : Array Value := #[.int .i64 0, .int .i64 0, .int .i64 0, .int .i64 0, .int .i64 0, .int .i64 0, .int .i64 0, .int .i64 0, .int .i64 0, .int .i64 0, .int .i64 0, .int .i64 0, .int .i64 0, .int .i64 0, .int .i64 0, .int .i64 0, .int .i64 0, .int .i64 0, .int .i64 0, .int .i64 0, .int .i64 0, .int .i64 0, .int .i64 0, .int .i64 0, .int .i64 0, .int .i64 0, .int .i64 0, .int .i64 0, .int .i64 0, .int .i64 0, .int .i64 0, .int .i64 0, .int .i64 0, .int .i64 0, .int .i64 0, .int .i64 0, .int .i64 0, .int .i64 0, .int .i64 0, .int .i64 0]

theorem ang_written : writeFrom zer40 0 angA.toList = angA := by kernel_rfl
theorem ang_one : angA.all (·.oneCell') = true := by kernel_rfl

set_option maxRecDepth 100000 in
theorem angles_any (w : World) : Calls Try.prog 21 #[] w fun e w' => e = .returned (.agg angA) ∧ Below w.heap.size w w' := by
  have K := Blk.setCells (g := w.heap.size) angA.toList 0 _ _ (Blk.new w zer40 53)
  rw [ang_written] at K
  have hb := below_setCells (Nat.le_refl _) angA.toList 0 _ (below_alloc (Below.refl w.heap.size w) (.cells zer40 53))
  have ht := (Blk.new w zer40 53).there 0 40 (by decide)
  have hi : (Try.prog.info? 53).map (·.size) = some 40 := by kernel_rfl
  generalize hW : (w.alloc (.cells zer40 53)).setCells w.heap.size 0 angA.toList = W1 at K hb
  have HW := Lib.hid hW
  have HT := Lib.hid ht
  have HI := Lib.hid hi
  clear hW ht hi
  go_enter Try.func21, Try.ntmps21
  go_upto_region 1 with fail
  go_wp2_with (refine wpList_store_mid rfl _ _ _ rfl w.heap.size 0 angA rfl rfl HT.out HI.out ang_one ?_; refine Eq.mpr (congrArg (wpList _ _ _ _ _) HW.out) ?_)
  refine bodyPost_ret (v := .agg angA) ?_ rfl ⟨rfl, hb⟩
  obtain ⟨T, K⟩ := K
  exact results_cell_row rfl _ _ w.heap.size T angA (0, 0) _ rfl K Try.underlying53 rfl HI.out

theorem index_ang (j : Nat) (hj : j < 40) (w : World) : (Instr.index 53 (.agg angA) (.int .i64 j)).run Try.prog w = .ok (.int .i64 (ang j)) w := by
  match j, hj with
  | 0, _ => show _ = _; kernel_rfl
  | 1, _ => show _ = _; kernel_rfl
  | 2, _ => show _ = _; kernel_rfl
  | 3, _ => show _ = _; kernel_rfl
  | 4, _ => show _ = _; kernel_rfl
  | 5, _ => show _ = _; kernel_rfl
  | 6, _ => show _ = _; kernel_rfl
  | 7, _ => show _ = _; kernel_rfl
  | 8, _ => show _ = _; kernel_rfl
  | 9, _ => show _ = _; kernel_rfl
  | 10, _ => show _ = _; kernel_rfl
  | 11, _ => show _ = _; kernel_rfl
  | 12, _ => show _ = _; kernel_rfl
  | 13, _ => show _ = _; kernel_rfl
  | 14, _ => show _ = _; kernel_rfl
  | 15, _ => show _ = _; kernel_rfl
  | 16, _ => show _ = _; kernel_rfl
  | 17, _ => show _ = _; kernel_rfl
  | 18, _ => show _ = _; kernel_rfl
  | 19, _ => show _ = _; kernel_rfl
  | 20, _ => show _ = _; kernel_rfl
  | 21, _ => show _ = _; kernel_rfl
  | 22, _ => show _ = _; kernel_rfl
  | 23, _ => show _ = _; kernel_rfl
  | 24, _ => show _ = _; kernel_rfl
  | 25, _ => show _ = _; kernel_rfl
  | 26, _ => show _ = _; kernel_rfl
  | 27, _ => show _ = _; kernel_rfl
  | 28, _ => show _ = _; kernel_rfl
  | 29, _ => show _ = _; kernel_rfl
  | 30, _ => show _ = _; kernel_rfl
  | 31, _ => show _ = _; kernel_rfl
  | 32, _ => show _ = _; kernel_rfl
  | 33, _ => show _ = _; kernel_rfl
  | 34, _ => show _ = _; kernel_rfl
  | 35, _ => show _ = _; kernel_rfl
  | 36, _ => show _ = _; kernel_rfl
  | 37, _ => show _ = _; kernel_rfl
  | 38, _ => show _ = _; kernel_rfl
  | 39, _ => show _ = _; kernel_rfl
  | n + 40, h => omega

theorem left_any (x y : Int) (k : Nat) (w : World) (hk : k ≤ 62) (h : I64 (x - y / 2 ^ k) ∧ I64 (y + x / 2 ^ k)) :
    Calls Try.prog 22 #[.agg #[.int .i64 (x), .int .i64 (y)], .int .i64 (k)] w fun e w' => e = .returned (.agg #[.int .i64 (x - y / 2 ^ k), .int .i64 (y + x / 2 ^ k)]) ∧ Below w.heap.size w w' := by
  obtain ⟨⟨h0, h1⟩, ⟨h2, h3⟩⟩ := h
  go_enter Try.func22, Try.ntmps22
  go_wp2
  go_region
  go_wp2
  exact bodyPost_ret (v := .agg #[.int .i64 (x - y / 2 ^ k), .int .i64 (y + x / 2 ^ k)]) (by simp [results, Try.results22, go_sem]) rfl ⟨rfl, (by repeat (first | with_reducible exact Below.refl _ _ | with_reducible refine Below.drew ?_ | with_reducible refine below_alloc ?_ _ | (with_reducible refine below_set ?_ ?_ _; rotate_left; (first | omega | (simp <;> omega))) | with_reducible refine below_drewN ?_ _ | with_reducible refine below_tr ?_ (by with_reducible assumption)))⟩

theorem right_any (x y : Int) (k : Nat) (w : World) (hk : k ≤ 62) (h : I64 (x + y / 2 ^ k) ∧ I64 (y - x / 2 ^ k)) :
    Calls Try.prog 23 #[.agg #[.int .i64 (x), .int .i64 (y)], .int .i64 (k)] w fun e w' => e = .returned (.agg #[.int .i64 (x + y / 2 ^ k), .int .i64 (y - x / 2 ^ k)]) ∧ Below w.heap.size w w' := by
  obtain ⟨⟨h0, h1⟩, ⟨h2, h3⟩⟩ := h
  go_enter Try.func23, Try.ntmps23
  go_wp2
  go_region
  go_wp2
  exact bodyPost_ret (v := .agg #[.int .i64 (x + y / 2 ^ k), .int .i64 (y - x / 2 ^ k)]) (by simp [results, Try.results23, go_sem]) rfl ⟨rfl, (by repeat (first | with_reducible exact Below.refl _ _ | with_reducible refine Below.drew ?_ | with_reducible refine below_alloc ?_ _ | (with_reducible refine below_set ?_ ?_ _; rotate_left; (first | omega | (simp <;> omega))) | with_reducible refine below_drewN ?_ _ | with_reducible refine below_tr ?_ (by with_reducible assumption)))⟩

theorem rounded_any (n : Int) (w : World) (h : I64 n) :
    Calls Try.prog 24 #[.int .i64 (n)] w fun e w' => e = .returned (.int .i64 (rnd n)) ∧ Below w.heap.size w w' := by
  go_enter Try.func24, Try.ntmps24
  go_wp2_with (first
    | (go_at_call 37; refine (move_down n 30 _ (by decide) (by decide) h).mono ?_; rintro e w1 ⟨rfl, hb1⟩; have z1 := hb1.size; (try simp at z1)))
  go_ret
  exact ⟨rfl, (by repeat (first | with_reducible exact Below.refl _ _ | with_reducible refine Below.drew ?_ | with_reducible refine below_alloc ?_ _ | (with_reducible refine below_set ?_ ?_ _; rotate_left; (first | omega | (simp <;> omega))) | with_reducible refine below_drewN ?_ _ | with_reducible refine below_tr ?_ (by with_reducible assumption)))⟩

end Go.Proofs.Ythopiolbnhjgnaa
