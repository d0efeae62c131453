/- conf.within and conf.Dir. Conditions: as stated in each theorem. -/
import Derived.Test.YtbodhkaohmfijaaBase
set_option linter.unusedVariables false
set_option linter.unusedSimpArgs false
namespace Go.Proofs.Ytbodhkaohmfijaa.ScanDir
open Go.RowKit Base
set_option maxRecDepth 100000

theorem within (a b c : Int) (w : World) : Calls Try.prog 26 #[.int .i64 a, .int .i64 b, .int .i64 c] w fun e w' => e = .returned (.bool (decide (b ≤ a) && decide (a ≤ c))) ∧ w' = w := by
  by_cases h1 : b ≤ a <;> by_cases h2 : a ≤ c <;> simp only [h1, h2, decide_true, decide_false, Bool.and_true, Bool.and_false, Bool.true_and, Bool.false_and]
  all_goals go_enter Try.func26, Try.ntmps26
  all_goals go_wp2
  all_goals go_ret
  all_goals exact ⟨rfl, rfl⟩
/-- the direction of a number -/
def chan (n : Int) : Int := if 0 ≤ n ∧ n ≤ 7 then n / 2 else -1
def side (n : Int) : Int := if 0 ≤ n ∧ n ≤ 7 then n % 2 else -1
theorem dir (n : Int) (w : World) : Calls Try.prog 14 #[.int .i64 n] w fun e w' => e = .returned (.tuple #[.int .i64 (chan n), .int .i64 (side n)]) ∧ w' = w := by
  by_cases h : 0 ≤ n ∧ n ≤ 7
  · have e1 : chan n = n / 2 := by simp [chan, h]
    have e2 : side n = n % 2 := by simp [side, h]
    rw [e1, e2]
    obtain ⟨h1, h2⟩ := h
    have q1 : Int.tdiv n 2 = n / 2 := Int.tdiv_eq_ediv_of_nonneg h1
    have q2 : Int.tmod n 2 = n % 2 := Int.tmod_eq_emod_of_nonneg h1
    have q3 : IntKind.i64.wrap (n / 2) = n / 2 := IntWalk.i64_in _ (by omega)
    clear e1 e2
    go_enter Try.func14, Try.ntmps14
    go_wp2_with (go_at_call 26; refine (within _ _ _ _).mono ?_; rintro e w1 ⟨rfl, rfl⟩)
    go_ret2
    exact ⟨rfl, rfl⟩
  · have e1 : chan n = -1 := by simp [chan, h]
    have e2 : side n = -1 := by simp [side, h]
    rw [e1, e2]
    have hb : (decide (0 ≤ n) && decide (n ≤ 7)) = false := by simp; omega
    clear e1 e2
    go_enter Try.func14, Try.ntmps14
    go_wp2_with (go_at_call 26; refine (within _ _ _ _).mono ?_; rintro e w1 ⟨rfl, rfl⟩; rw [hb])
    go_ret2
    exact ⟨rfl, rfl⟩
end Go.Proofs.Ytbodhkaohmfijaa.ScanDir
