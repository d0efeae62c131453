/- scan.New at 0. Conditions: as stated in each theorem. -/
import Derived.Test.YtbodhkaohmfijaaScanDir
set_option linter.unusedVariables false
set_option linter.unusedSimpArgs false
namespace Go.Proofs.Ytbodhkaohmfijaa.ScanMake
open Go.RowKit Base ScanDir
set_option maxRecDepth 100000

theorem dir0 (w : World) : Calls Try.prog 14 #[.int .i64 0] w fun e w' => e = .returned (.tuple #[.int .i64 0, .int .i64 0]) ∧ w' = w := dir 0 w
theorem new0 (w : World) : Calls Try.prog 10 #[.int .i64 0] w fun e w' => e = .returned (.tuple #[.pointer (some ⟨w.heap.size, 0, none⟩), .int .i64 0]) ∧ w' = w.alloc (.cells #[.int .i64 0, .int .i64 0] 47) := by
  go_enter Try.func10, Try.ntmps10
  go_wp2_with (go_at_call 14; refine (dir0 _).mono ?_; rintro e w1 ⟨rfl, rfl⟩)
  go_ret2
  exact ⟨rfl, rfl⟩
end Go.Proofs.Ytbodhkaohmfijaa.ScanMake
