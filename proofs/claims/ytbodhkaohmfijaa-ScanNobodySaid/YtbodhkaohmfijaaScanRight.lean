/- event.Right answers some bool. Conditions: as stated in each theorem. -/
import Derived.Test.YtbodhkaohmfijaaScanSmall
set_option linter.unusedVariables false
set_option linter.unusedSimpArgs false
namespace Go.Proofs.Ytbodhkaohmfijaa.ScanRight
open Go.RowKit Base ScanDir ScanRow ScanPlain ScanSmall
set_option maxRecDepth 100000

def SomeB (w : World) (e : Ending) (w' : World) : Prop := (∃ q : Bool, e = .returned (.bool q)) ∧ Below w.heap.size w w'
theorem someB {w w' : World} (q : Bool) (h : Below w.heap.size w w') : SomeB w (.returned (.bool q)) w' := ⟨⟨q, rfl⟩, h⟩
set_option maxHeartbeats 2000000 in
theorem eventRight (k h c f s t : Int) (d a : ByteArray) (w : World) : Calls Try.prog 18 #[.agg #[.int .i64 k, .int .u64 h, .int .i64 c, .int .i64 f, .int .u64 s, .int .u64 t, .string d, .string a]] w (SomeB w) := by
  have hpr := fun w => packetRight c f s t d w
  generalize rightP c f d = q at hpr
  have HP := Lib.hid hpr
  clear hpr
  cases q
  · go_enter Try.func18, Try.ntmps18
    go_wp2_with (go_at_call 27; refine (HP.out _).mono ?_; rintro e w1 ⟨rfl, hb1⟩; obtain ⟨hcl, hfr⟩ := bcell hb1; have HB := Lib.hid hb1)
    go_ret
    exact someB _ (bel ((Below.refl _ _).alloc (Nat.le_refl _) _) HB.out (by simp))
  · go_enter Try.func18, Try.ntmps18
    go_wp2_with (go_at_call 27; refine (HP.out _).mono ?_; rintro e w1 ⟨rfl, hb1⟩; obtain ⟨hcl, hfr⟩ := bcell hb1; have HB := Lib.hid hb1)
    all_goals go_ret
    all_goals exact someB _ (bel ((Below.refl _ _).alloc (Nat.le_refl _) _) HB.out (by simp))
end Go.Proofs.Ytbodhkaohmfijaa.ScanRight
