/- packet.Less and the page's Less: which of two keys is ahead. Conditions: as stated in each theorem. -/
import Derived.Test.YtclpjmhanhocoaaDoorBase
set_option linter.unusedVariables false
set_option linter.unusedSimpArgs false
namespace Go.Proofs.YtclpjmhanhocoaaDoor.Less
open Go.RowKit Base
set_option maxRecDepth 100000

/-- is the first key ahead? -/
def lessK (a0 a1 a2 b0 b1 b2 : Int) : Bool := decide (a0 < b0 ∨ a0 = b0 ∧ (a1 < b1 ∨ a1 = b1 ∧ a2 < b2))
theorem keyEq (d : Nat) (w : World) (x0 y0 x1 y1 x2 y2 : Int) :
    (Op.equalIn (d + 2) 24 (.agg #[.int .i64 x0, .int .i64 x1, .int .u64 x2]) (.agg #[.int .i64 y0, .int .i64 y1, .int .u64 y2])).run Tryd.prog w = .ok (x0 == y0 && (x1 == y1 && x2 == y2)) w := by
  refine eq_struct Tryd.underlying24 (by kernel_rfl) ?_
  refine eqf_more (by rfl) (by go_simp; rfl) (by go_simp; rfl) (by go_simp) ?_
  refine eqf_more (by rfl) (by go_simp; rfl) (by go_simp; rfl) (by go_simp) ?_
  exact eqf_one (by rfl) (by go_simp; rfl) (by go_simp; rfl) (by go_simp)
theorem keyEq' (w : World) (x0 y0 x1 y1 x2 y2 : Int) (r : Bool) (h : (x0 == y0 && (x1 == y1 && x2 == y2)) = r) :
    (binOp .eql 24 (.agg #[.int .i64 x0, .int .i64 x1, .int .u64 x2]) (.agg #[.int .i64 y0, .int .i64 y1, .int .u64 y2])).run Tryd.prog w = .ok (.bool r) w := by
  have hd : Op.maxDepth = 9998 + 2 := rfl
  simp only [binOp]
  simp only [Op.equal, hd]
  simp [keyEq, h]
theorem ref (a0 a1 a2 b0 b1 b2 : Int) (w : World) :
    Calls Tryd.prog 5 #[.agg #[.int .i64 a0, .int .i64 a1, .int .u64 a2], .agg #[.int .i64 b0, .int .i64 b1, .int .u64 b2]] w fun e w' => e = .returned (.bool (lessK a0 a1 a2 b0 b1 b2)) ∧ Below w.heap.size w w' := by
  by_cases h0 : a0 < b0
  · have hr : lessK a0 a1 a2 b0 b1 b2 = true := by simp [lessK, h0]
    rw [hr]
    clear hr
    go_enter Tryd.func5, Tryd.ntmps5
    go_wp2
    go_ret
    exact ⟨rfl, ((Below.refl _ _).alloc (Nat.le_refl _) _).alloc (by simp) _⟩
  by_cases h1 : a0 = b0
  · subst h1
    have e0 : (a0 == a0) = true := by simp
    by_cases h2 : a1 < b1
    · have hr : lessK a0 a1 a2 a0 b1 b2 = true := by simp [lessK, h2]
      rw [hr]
      clear hr
      go_enter Tryd.func5, Tryd.ntmps5
      go_wp2
      go_ret
      exact ⟨rfl, ((Below.refl _ _).alloc (Nat.le_refl _) _).alloc (by simp) _⟩
    by_cases h3 : a1 = b1
    · subst h3
      have e1 : (a1 == a1) = true := by simp
      have hr : lessK a0 a1 a2 a0 a1 b2 = decide (a2 < b2) := by simp [lessK]
      rw [hr]
      clear hr
      go_enter Tryd.func5, Tryd.ntmps5
      go_wp2
      go_ret
      exact ⟨rfl, ((Below.refl _ _).alloc (Nat.le_refl _) _).alloc (by simp) _⟩
    · have hr : lessK a0 a1 a2 a0 b1 b2 = false := by simp [lessK, h2, h3]
      have e1 : (a1 == b1) = false := beq_eq_false_iff_ne.2 h3
      rw [hr]
      clear hr
      go_enter Tryd.func5, Tryd.ntmps5
      go_wp2
      go_ret
      exact ⟨rfl, ((Below.refl _ _).alloc (Nat.le_refl _) _).alloc (by simp) _⟩
  · have hr : lessK a0 a1 a2 b0 b1 b2 = false := by simp [lessK, h1]; omega
    have e0 : (a0 == b0) = false := beq_eq_false_iff_ne.2 h1
    rw [hr]
    clear hr
    go_enter Tryd.func5, Tryd.ntmps5
    go_wp2
    go_ret
    exact ⟨rfl, ((Below.refl _ _).alloc (Nat.le_refl _) _).alloc (by simp) _⟩
theorem less (a0 a1 a2 b0 b1 b2 : Int) (w : World) :
    Calls Tryd.prog 4 #[.agg #[.int .i64 a0, .int .i64 a1, .int .u64 a2], .agg #[.int .i64 b0, .int .i64 b1, .int .u64 b2]] w fun e w' => e = .returned (.bool (lessK a0 a1 a2 b0 b1 b2)) ∧ Below w.heap.size w w' := by
  by_cases h1 : a0 = b0
  · subst h1
    by_cases h3 : a1 = b1
    · subst h3
      by_cases h5 : a2 = b2
      · subst h5
        have hr : lessK a0 a1 a2 a0 a1 a2 = false := by simp [lessK]
        have hk := fun w => keyEq' w a0 a0 a1 a1 a2 a2 true (by simp)
        rw [hr]
        clear hr
        go_enter Tryd.func4, Tryd.ntmps4
        go_wp2
        go_ret
        exact ⟨rfl, ((Below.refl _ _).alloc (Nat.le_refl _) _).alloc (by simp) _⟩
      · have hr : lessK a0 a1 a2 a0 a1 b2 = decide (a2 < b2) := by simp [lessK]
        have hk := fun w => keyEq' w a0 a0 a1 a1 a2 b2 false (by simp [h5])
        have e0 : (a0 != a0) = false := by simp
        have e1 : (a1 != a1) = false := by simp
        rw [hr]
        clear hr
        go_enter Tryd.func4, Tryd.ntmps4
        go_wp2
        go_ret
        exact ⟨rfl, ((Below.refl _ _).alloc (Nat.le_refl _) _).alloc (by simp) _⟩
    · have hr : lessK a0 a1 a2 a0 b1 b2 = decide (a1 < b1) := by simp [lessK, h3]
      have hk := fun w => keyEq' w a0 a0 a1 b1 a2 b2 false (by simp [h3])
      have e0 : (a0 != a0) = false := by simp
      have e1 : (a1 != b1) = true := by simpa using h3
      rw [hr]
      clear hr
      go_enter Tryd.func4, Tryd.ntmps4
      go_wp2
      go_ret
      exact ⟨rfl, ((Below.refl _ _).alloc (Nat.le_refl _) _).alloc (by simp) _⟩
  · have hr : lessK a0 a1 a2 b0 b1 b2 = decide (a0 < b0) := by simp [lessK, h1]
    have hk := fun w => keyEq' w a0 b0 a1 b1 a2 b2 false (by simp [h1])
    have e0 : (a0 != b0) = true := by simpa using h1
    rw [hr]
    clear hr
    go_enter Tryd.func4, Tryd.ntmps4
    go_wp2
    go_ret
    exact ⟨rfl, ((Below.refl _ _).alloc (Nat.le_refl _) _).alloc (by simp) _⟩
end Go.Proofs.YtclpjmhanhocoaaDoor.Less
