/- The page's example of chapter 16 answers true. Conditions: none. -/
import Derived.Test.YtclpjmhanhocoaaQueueInt
set_option linter.unusedVariables false
set_option linter.unusedSimpArgs false
namespace Go.Proofs.Ytclpjmhanhocoaa.QueueAwake
open Go.RowKit Base
set_option maxRecDepth 100000
theorem awake (w : World) : Calls Try.prog 12 #[] w fun e w' => e = .returned (.bool true) ∧ Below w.heap.size w w' := by
  go_enter Try.func12, Try.ntmps12
  go_wp2_with fail
  refine (QInt.new 1 _ (by omega) (by omega)).mono ?_
  rintro e w1 ⟨q, g, rfl, hq0, hg0, hq1, hg1, hI, hb1⟩
  have H := Lib.hid hI
  clear hI
  go_wp2_with fail
  refine (QInt.put 5 H.out (by omega)).mono ?_
  rintro e w2 ⟨rfl, hI2, hO2⟩
  have H2 := Lib.hid hI2
  clear hI2
  go_wp2_with fail
  refine (QInt.put_full 6 H2.out).mono ?_
  rintro e w3 ⟨rfl, k, rfl⟩
  go_wp2_with fail
  refine (QInt.get 5 (H2.out.drewN k) (by simp [QInt.zeros])).mono ?_
  rintro e w4 ⟨rfl, hI4, hO4⟩
  have H4 := Lib.hid hI4
  clear hI4
  go_wp2
  go_ret
  refine ⟨rfl, Only.below hb1 ((hO2.drewN k).trans hO4) ?_ (by omega)⟩
  rintro i hi (rfl | rfl) <;> omega
end Go.Proofs.Ytclpjmhanhocoaa.QueueAwake
