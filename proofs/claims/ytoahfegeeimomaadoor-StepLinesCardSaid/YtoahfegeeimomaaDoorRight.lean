/- step.Right and the reference's Right, at the steps that a line can be. Conditions: as stated in each theorem. -/
import Derived.Test.YtoahfegeeimomaaDoorKinds
import Derived.Test.YtoahfegeeimomaaDoorHex
set_option linter.unusedVariables false
set_option linter.unusedSimpArgs false
namespace Go.Proofs.YtoahfegeeimomaaDoor.Right
open Go.RowKit Base RowD Number TextP LinesPlain Num Kinds
set_option maxRecDepth 100000

def rightP (c f : Int) (d : ByteArray) : Bool := decide (0 ≤ c) && decide (c < 4) && (decide (f = 0) || decide (f = 1)) && decide (d.size ≤ 64)
set_option maxHeartbeats 1000000 in
theorem packetRight (c f s t : Int) (d : ByteArray) (w : World) :
    Calls Tryd.prog 56 #[.agg #[.int .i64 c, .int .i64 f, .int .u64 s, .int .u64 t, .string d]] w fun e w' => e = .returned (.bool (rightP c f d)) ∧ Below w.heap.size w w' := by
  have HR := Lib.hid (show rightP c f d = rightP c f d from rfl)
  generalize h : rightP c f d = r at HR ⊢
  have H := Lib.hid h
  clear h HR
  go_enter Tryd.func56, Tryd.ntmps56
  go_wp2
  all_goals go_ret
  all_goals refine ⟨?_, (Below.refl _ _).alloc (Nat.le_refl _) _⟩
  all_goals rw [← H.out]
  all_goals simp [rightP, *]
  all_goals omega
set_option maxHeartbeats 1000000 in
theorem refPacketRight (c f s t : Int) (d : ByteArray) (w : World) :
    Calls Tryd.prog 54 #[.agg #[.int .i64 c, .int .i64 f, .int .u64 s, .int .u64 t, .string d]] w fun e w' => e = .returned (.bool (rightP c f d)) ∧ Below w.heap.size w w' := by
  have HR := Lib.hid (show rightP c f d = rightP c f d from rfl)
  generalize h : rightP c f d = r at HR ⊢
  have H := Lib.hid h
  clear h HR
  go_enter Tryd.func54, Tryd.ntmps54
  go_wp2
  all_goals go_ret
  all_goals refine ⟨congrArg (fun z => Ending.returned (.bool z)) (?_ : _ = r), (Below.refl _ _).alloc (Nat.le_refl _) _⟩
  all_goals rw [← H.out, Bool.eq_iff_iff]
  all_goals simp [rightP]
  all_goals omega
theorem rightP_is (c f : Int) (t : Nat) (d : ByteArray) : rightP c f d = right ⟨3, 0, 0, c, f, t, d.data.toList⟩ := by
  have : d.data.toList.length = d.size := by simp
  simp only [rightP, right, this]
theorem eqZ (w : World) : (binOp .eql 38 (.agg #[.int .i64 0, .int .i64 0, .int .u64 0, .int .u64 0, .string ⟨#[]⟩]) (.agg #[.int .i64 0, .int .i64 0, .int .u64 0, .int .u64 0, .string ⟨#[]⟩])).run Tryd.prog w = .ok (.bool true) w := by kernel_rfl

set_option maxHeartbeats 1000000 in
theorem right0 (w : World) : Calls Tryd.prog 43 #[.agg #[.int .i64 0, .int .i64 0, .int .i64 0, .int .i64 0, .int .i64 0, .int .u64 0, .int .u64 0, .string ⟨#[]⟩]] w fun e w' => e = .returned (.bool (right ⟨0, 0, 0, 0, 0, 0, []⟩)) ∧ Below w.heap.size w w' := by
  have heq := eqZ
  have b01 : bits .and .i64 0 1 = 0 := by kernel_rfl
  have b04 : bits .and .i64 0 4 = 0 := by kernel_rfl
  have b11 : bits .and .i64 1 1 = 1 := by kernel_rfl
  have b14 : bits .and .i64 1 4 = 0 := by kernel_rfl
  have b21 : bits .and .i64 2 1 = 0 := by kernel_rfl
  have b24 : bits .and .i64 2 4 = 0 := by kernel_rfl
  have b31 : bits .and .i64 3 1 = 1 := by kernel_rfl
  have b34 : bits .and .i64 3 4 = 0 := by kernel_rfl
  generalize h : right ⟨0, 0, 0, 0, 0, 0, []⟩ = r
  have H := Lib.hid h
  clear h
  go_enter Tryd.func43, Tryd.ntmps43
  go_wp2_with (first | (go_at_call 30; refine (has0 _).mono ?_; rintro e w' ⟨rfl, rfl⟩) | (go_at_call 55; refine (bounds0 _).mono ?_; rintro e w' ⟨rfl, rfl⟩))
  all_goals go_ret
  all_goals refine ⟨?_, (Below.refl _ _).alloc (Nat.le_refl _) _⟩
  all_goals rw [← H.out]
  all_goals (first | rfl | (simp [right, *]; done) | (simp [right, *]; omega) | (simp [right]; omega))
set_option maxHeartbeats 1000000 in
theorem right1 (n : Int) (w : World) : Calls Tryd.prog 43 #[.agg #[.int .i64 1, .int .i64 0, .int .i64 n, .int .i64 0, .int .i64 0, .int .u64 0, .int .u64 0, .string ⟨#[]⟩]] w fun e w' => e = .returned (.bool (right ⟨1, 0, n, 0, 0, 0, []⟩)) ∧ Below w.heap.size w w' := by
  have heq := eqZ
  have b01 : bits .and .i64 0 1 = 0 := by kernel_rfl
  have b04 : bits .and .i64 0 4 = 0 := by kernel_rfl
  have b11 : bits .and .i64 1 1 = 1 := by kernel_rfl
  have b14 : bits .and .i64 1 4 = 0 := by kernel_rfl
  have b21 : bits .and .i64 2 1 = 0 := by kernel_rfl
  have b24 : bits .and .i64 2 4 = 0 := by kernel_rfl
  have b31 : bits .and .i64 3 1 = 1 := by kernel_rfl
  have b34 : bits .and .i64 3 4 = 0 := by kernel_rfl
  generalize h : right ⟨1, 0, n, 0, 0, 0, []⟩ = r
  have H := Lib.hid h
  clear h
  go_enter Tryd.func43, Tryd.ntmps43
  go_wp2_with (first | (go_at_call 30; refine (has1 _).mono ?_; rintro e w' ⟨rfl, rfl⟩) | (go_at_call 55; refine (bounds1 _).mono ?_; rintro e w' ⟨rfl, rfl⟩))
  all_goals go_ret
  all_goals refine ⟨?_, (Below.refl _ _).alloc (Nat.le_refl _) _⟩
  all_goals rw [← H.out]
  all_goals (first | rfl | (simp [right, *]; done) | (simp [right, *]; omega) | (simp [right]; omega))
set_option maxHeartbeats 1000000 in
theorem right5 (n : Int) (w : World) : Calls Tryd.prog 43 #[.agg #[.int .i64 5, .int .i64 0, .int .i64 n, .int .i64 0, .int .i64 0, .int .u64 0, .int .u64 0, .string ⟨#[]⟩]] w fun e w' => e = .returned (.bool (right ⟨5, 0, n, 0, 0, 0, []⟩)) ∧ Below w.heap.size w w' := by
  have heq := eqZ
  have b01 : bits .and .i64 0 1 = 0 := by kernel_rfl
  have b04 : bits .and .i64 0 4 = 0 := by kernel_rfl
  have b11 : bits .and .i64 1 1 = 1 := by kernel_rfl
  have b14 : bits .and .i64 1 4 = 0 := by kernel_rfl
  have b21 : bits .and .i64 2 1 = 0 := by kernel_rfl
  have b24 : bits .and .i64 2 4 = 0 := by kernel_rfl
  have b31 : bits .and .i64 3 1 = 1 := by kernel_rfl
  have b34 : bits .and .i64 3 4 = 0 := by kernel_rfl
  generalize h : right ⟨5, 0, n, 0, 0, 0, []⟩ = r
  have H := Lib.hid h
  clear h
  go_enter Tryd.func43, Tryd.ntmps43
  go_wp2_with (first | (go_at_call 30; refine (has5 _).mono ?_; rintro e w' ⟨rfl, rfl⟩) | (go_at_call 55; refine (bounds5 _).mono ?_; rintro e w' ⟨rfl, rfl⟩))
  all_goals go_ret
  all_goals refine ⟨?_, (Below.refl _ _).alloc (Nat.le_refl _) _⟩
  all_goals rw [← H.out]
  all_goals (first | rfl | (simp [right, *]; done) | (simp [right, *]; omega) | (simp [right]; omega))
set_option maxHeartbeats 1000000 in
theorem right7 (w : World) : Calls Tryd.prog 43 #[.agg #[.int .i64 7, .int .i64 0, .int .i64 0, .int .i64 0, .int .i64 0, .int .u64 0, .int .u64 0, .string ⟨#[]⟩]] w fun e w' => e = .returned (.bool (right ⟨7, 0, 0, 0, 0, 0, []⟩)) ∧ Below w.heap.size w w' := by
  have heq := eqZ
  have b01 : bits .and .i64 0 1 = 0 := by kernel_rfl
  have b04 : bits .and .i64 0 4 = 0 := by kernel_rfl
  have b11 : bits .and .i64 1 1 = 1 := by kernel_rfl
  have b14 : bits .and .i64 1 4 = 0 := by kernel_rfl
  have b21 : bits .and .i64 2 1 = 0 := by kernel_rfl
  have b24 : bits .and .i64 2 4 = 0 := by kernel_rfl
  have b31 : bits .and .i64 3 1 = 1 := by kernel_rfl
  have b34 : bits .and .i64 3 4 = 0 := by kernel_rfl
  generalize h : right ⟨7, 0, 0, 0, 0, 0, []⟩ = r
  have H := Lib.hid h
  clear h
  go_enter Tryd.func43, Tryd.ntmps43
  go_wp2_with (first | (go_at_call 30; refine (has7 _).mono ?_; rintro e w' ⟨rfl, rfl⟩) | (go_at_call 55; refine (bounds7 _).mono ?_; rintro e w' ⟨rfl, rfl⟩))
  all_goals go_ret
  all_goals refine ⟨?_, (Below.refl _ _).alloc (Nat.le_refl _) _⟩
  all_goals rw [← H.out]
  all_goals (first | rfl | (simp [right, *]; done) | (simp [right, *]; omega) | (simp [right]; omega))
set_option maxHeartbeats 1000000 in
theorem right8 (w : World) : Calls Tryd.prog 43 #[.agg #[.int .i64 8, .int .i64 0, .int .i64 0, .int .i64 0, .int .i64 0, .int .u64 0, .int .u64 0, .string ⟨#[]⟩]] w fun e w' => e = .returned (.bool (right ⟨8, 0, 0, 0, 0, 0, []⟩)) ∧ Below w.heap.size w w' := by
  have heq := eqZ
  have b01 : bits .and .i64 0 1 = 0 := by kernel_rfl
  have b04 : bits .and .i64 0 4 = 0 := by kernel_rfl
  have b11 : bits .and .i64 1 1 = 1 := by kernel_rfl
  have b14 : bits .and .i64 1 4 = 0 := by kernel_rfl
  have b21 : bits .and .i64 2 1 = 0 := by kernel_rfl
  have b24 : bits .and .i64 2 4 = 0 := by kernel_rfl
  have b31 : bits .and .i64 3 1 = 1 := by kernel_rfl
  have b34 : bits .and .i64 3 4 = 0 := by kernel_rfl
  generalize h : right ⟨8, 0, 0, 0, 0, 0, []⟩ = r
  have H := Lib.hid h
  clear h
  go_enter Tryd.func43, Tryd.ntmps43
  go_wp2_with (first | (go_at_call 30; refine (has8 _).mono ?_; rintro e w' ⟨rfl, rfl⟩) | (go_at_call 55; refine (bounds8 _).mono ?_; rintro e w' ⟨rfl, rfl⟩))
  all_goals go_ret
  all_goals refine ⟨?_, (Below.refl _ _).alloc (Nat.le_refl _) _⟩
  all_goals rw [← H.out]
  all_goals (first | rfl | (simp [right, *]; done) | (simp [right, *]; omega) | (simp [right]; omega))
set_option maxHeartbeats 1000000 in
theorem right2s0 (w : World) : Calls Tryd.prog 43 #[.agg #[.int .i64 2, .int .i64 0, .int .i64 0, .int .i64 0, .int .i64 0, .int .u64 0, .int .u64 0, .string ⟨#[]⟩]] w fun e w' => e = .returned (.bool (right ⟨2, 0, 0, 0, 0, 0, []⟩)) ∧ Below w.heap.size w w' := by
  have heq := eqZ
  have b01 : bits .and .i64 0 1 = 0 := by kernel_rfl
  have b04 : bits .and .i64 0 4 = 0 := by kernel_rfl
  have b11 : bits .and .i64 1 1 = 1 := by kernel_rfl
  have b14 : bits .and .i64 1 4 = 0 := by kernel_rfl
  have b21 : bits .and .i64 2 1 = 0 := by kernel_rfl
  have b24 : bits .and .i64 2 4 = 0 := by kernel_rfl
  have b31 : bits .and .i64 3 1 = 1 := by kernel_rfl
  have b34 : bits .and .i64 3 4 = 0 := by kernel_rfl
  generalize h : right ⟨2, 0, 0, 0, 0, 0, []⟩ = r
  have H := Lib.hid h
  clear h
  go_enter Tryd.func43, Tryd.ntmps43
  go_wp2_with (first | (go_at_call 30; refine (has2 _).mono ?_; rintro e w' ⟨rfl, rfl⟩) | (go_at_call 55; refine (bounds2 _).mono ?_; rintro e w' ⟨rfl, rfl⟩))
  all_goals go_ret
  all_goals refine ⟨?_, (Below.refl _ _).alloc (Nat.le_refl _) _⟩
  all_goals rw [← H.out]
  all_goals (first | rfl | (simp [right, *]; done) | (simp [right, *]; omega) | (simp [right]; omega))
set_option maxHeartbeats 1000000 in
theorem right2s1 (w : World) : Calls Tryd.prog 43 #[.agg #[.int .i64 2, .int .i64 1, .int .i64 0, .int .i64 0, .int .i64 0, .int .u64 0, .int .u64 0, .string ⟨#[]⟩]] w fun e w' => e = .returned (.bool (right ⟨2, 1, 0, 0, 0, 0, []⟩)) ∧ Below w.heap.size w w' := by
  have heq := eqZ
  have b01 : bits .and .i64 0 1 = 0 := by kernel_rfl
  have b04 : bits .and .i64 0 4 = 0 := by kernel_rfl
  have b11 : bits .and .i64 1 1 = 1 := by kernel_rfl
  have b14 : bits .and .i64 1 4 = 0 := by kernel_rfl
  have b21 : bits .and .i64 2 1 = 0 := by kernel_rfl
  have b24 : bits .and .i64 2 4 = 0 := by kernel_rfl
  have b31 : bits .and .i64 3 1 = 1 := by kernel_rfl
  have b34 : bits .and .i64 3 4 = 0 := by kernel_rfl
  generalize h : right ⟨2, 1, 0, 0, 0, 0, []⟩ = r
  have H := Lib.hid h
  clear h
  go_enter Tryd.func43, Tryd.ntmps43
  go_wp2_with (first | (go_at_call 30; refine (has2 _).mono ?_; rintro e w' ⟨rfl, rfl⟩) | (go_at_call 55; refine (bounds2 _).mono ?_; rintro e w' ⟨rfl, rfl⟩))
  all_goals go_ret
  all_goals refine ⟨?_, (Below.refl _ _).alloc (Nat.le_refl _) _⟩
  all_goals rw [← H.out]
  all_goals (first | rfl | (simp [right, *]; done) | (simp [right, *]; omega) | (simp [right]; omega))
set_option maxHeartbeats 1000000 in
theorem right2sx (side : Int) (h0 : side ≠ 0) (h1 : side ≠ 1) (w : World) : Calls Tryd.prog 43 #[.agg #[.int .i64 2, .int .i64 side, .int .i64 0, .int .i64 0, .int .i64 0, .int .u64 0, .int .u64 0, .string ⟨#[]⟩]] w fun e w' => e = .returned (.bool (right ⟨2, side, 0, 0, 0, 0, []⟩)) ∧ Below w.heap.size w w' := by
  have heq := eqZ
  have b01 : bits .and .i64 0 1 = 0 := by kernel_rfl
  have b04 : bits .and .i64 0 4 = 0 := by kernel_rfl
  have b11 : bits .and .i64 1 1 = 1 := by kernel_rfl
  have b14 : bits .and .i64 1 4 = 0 := by kernel_rfl
  have b21 : bits .and .i64 2 1 = 0 := by kernel_rfl
  have b24 : bits .and .i64 2 4 = 0 := by kernel_rfl
  have b31 : bits .and .i64 3 1 = 1 := by kernel_rfl
  have b34 : bits .and .i64 3 4 = 0 := by kernel_rfl
  have a0 : (side == 0) = false := by simpa using h0
  have a1 : (side == 1) = false := by simpa using h1
  have a2 : (side != 0) = true := by simpa using h0
  have a3 : (side != 1) = true := by simpa using h1
  generalize h : right ⟨2, side, 0, 0, 0, 0, []⟩ = r
  have H := Lib.hid h
  clear h
  go_enter Tryd.func43, Tryd.ntmps43
  go_wp2_with (first | (go_at_call 30; refine (has2 _).mono ?_; rintro e w' ⟨rfl, rfl⟩) | (go_at_call 55; refine (bounds2 _).mono ?_; rintro e w' ⟨rfl, rfl⟩))
  all_goals go_ret
  all_goals refine ⟨?_, (Below.refl _ _).alloc (Nat.le_refl _) _⟩
  all_goals rw [← H.out]
  all_goals (first | rfl | (simp [right, *]; done) | (simp [right, *]; omega) | (simp [right]; omega))
theorem right2 (side : Int) (w : World) : Calls Tryd.prog 43 #[.agg #[.int .i64 2, .int .i64 side, .int .i64 0, .int .i64 0, .int .i64 0, .int .u64 0, .int .u64 0, .string ⟨#[]⟩]] w fun e w' => e = .returned (.bool (right ⟨2, side, 0, 0, 0, 0, []⟩)) ∧ Below w.heap.size w w' := by
  by_cases h0 : side = 0
  · subst h0; exact right2s0 w
  · by_cases h1 : side = 1
    · subst h1; exact right2s1 w
    · exact right2sx side h0 h1 w
set_option maxHeartbeats 1000000 in
theorem right4s0 (w : World) : Calls Tryd.prog 43 #[.agg #[.int .i64 4, .int .i64 0, .int .i64 0, .int .i64 0, .int .i64 0, .int .u64 0, .int .u64 0, .string ⟨#[]⟩]] w fun e w' => e = .returned (.bool (right ⟨4, 0, 0, 0, 0, 0, []⟩)) ∧ Below w.heap.size w w' := by
  have heq := eqZ
  have b01 : bits .and .i64 0 1 = 0 := by kernel_rfl
  have b04 : bits .and .i64 0 4 = 0 := by kernel_rfl
  have b11 : bits .and .i64 1 1 = 1 := by kernel_rfl
  have b14 : bits .and .i64 1 4 = 0 := by kernel_rfl
  have b21 : bits .and .i64 2 1 = 0 := by kernel_rfl
  have b24 : bits .and .i64 2 4 = 0 := by kernel_rfl
  have b31 : bits .and .i64 3 1 = 1 := by kernel_rfl
  have b34 : bits .and .i64 3 4 = 0 := by kernel_rfl
  generalize h : right ⟨4, 0, 0, 0, 0, 0, []⟩ = r
  have H := Lib.hid h
  clear h
  go_enter Tryd.func43, Tryd.ntmps43
  go_wp2_with (first | (go_at_call 30; refine (has4 _).mono ?_; rintro e w' ⟨rfl, rfl⟩) | (go_at_call 55; refine (bounds4 _).mono ?_; rintro e w' ⟨rfl, rfl⟩))
  all_goals go_ret
  all_goals refine ⟨?_, (Below.refl _ _).alloc (Nat.le_refl _) _⟩
  all_goals rw [← H.out]
  all_goals (first | rfl | (simp [right, *]; done) | (simp [right, *]; omega) | (simp [right]; omega))
set_option maxHeartbeats 1000000 in
theorem right4s1 (w : World) : Calls Tryd.prog 43 #[.agg #[.int .i64 4, .int .i64 1, .int .i64 0, .int .i64 0, .int .i64 0, .int .u64 0, .int .u64 0, .string ⟨#[]⟩]] w fun e w' => e = .returned (.bool (right ⟨4, 1, 0, 0, 0, 0, []⟩)) ∧ Below w.heap.size w w' := by
  have heq := eqZ
  have b01 : bits .and .i64 0 1 = 0 := by kernel_rfl
  have b04 : bits .and .i64 0 4 = 0 := by kernel_rfl
  have b11 : bits .and .i64 1 1 = 1 := by kernel_rfl
  have b14 : bits .and .i64 1 4 = 0 := by kernel_rfl
  have b21 : bits .and .i64 2 1 = 0 := by kernel_rfl
  have b24 : bits .and .i64 2 4 = 0 := by kernel_rfl
  have b31 : bits .and .i64 3 1 = 1 := by kernel_rfl
  have b34 : bits .and .i64 3 4 = 0 := by kernel_rfl
  generalize h : right ⟨4, 1, 0, 0, 0, 0, []⟩ = r
  have H := Lib.hid h
  clear h
  go_enter Tryd.func43, Tryd.ntmps43
  go_wp2_with (first | (go_at_call 30; refine (has4 _).mono ?_; rintro e w' ⟨rfl, rfl⟩) | (go_at_call 55; refine (bounds4 _).mono ?_; rintro e w' ⟨rfl, rfl⟩))
  all_goals go_ret
  all_goals refine ⟨?_, (Below.refl _ _).alloc (Nat.le_refl _) _⟩
  all_goals rw [← H.out]
  all_goals (first | rfl | (simp [right, *]; done) | (simp [right, *]; omega) | (simp [right]; omega))
set_option maxHeartbeats 1000000 in
theorem right4sx (side : Int) (h0 : side ≠ 0) (h1 : side ≠ 1) (w : World) : Calls Tryd.prog 43 #[.agg #[.int .i64 4, .int .i64 side, .int .i64 0, .int .i64 0, .int .i64 0, .int .u64 0, .int .u64 0, .string ⟨#[]⟩]] w fun e w' => e = .returned (.bool (right ⟨4, side, 0, 0, 0, 0, []⟩)) ∧ Below w.heap.size w w' := by
  have heq := eqZ
  have b01 : bits .and .i64 0 1 = 0 := by kernel_rfl
  have b04 : bits .and .i64 0 4 = 0 := by kernel_rfl
  have b11 : bits .and .i64 1 1 = 1 := by kernel_rfl
  have b14 : bits .and .i64 1 4 = 0 := by kernel_rfl
  have b21 : bits .and .i64 2 1 = 0 := by kernel_rfl
  have b24 : bits .and .i64 2 4 = 0 := by kernel_rfl
  have b31 : bits .and .i64 3 1 = 1 := by kernel_rfl
  have b34 : bits .and .i64 3 4 = 0 := by kernel_rfl
  have a0 : (side == 0) = false := by simpa using h0
  have a1 : (side == 1) = false := by simpa using h1
  have a2 : (side != 0) = true := by simpa using h0
  have a3 : (side != 1) = true := by simpa using h1
  generalize h : right ⟨4, side, 0, 0, 0, 0, []⟩ = r
  have H := Lib.hid h
  clear h
  go_enter Tryd.func43, Tryd.ntmps43
  go_wp2_with (first | (go_at_call 30; refine (has4 _).mono ?_; rintro e w' ⟨rfl, rfl⟩) | (go_at_call 55; refine (bounds4 _).mono ?_; rintro e w' ⟨rfl, rfl⟩))
  all_goals go_ret
  all_goals refine ⟨?_, (Below.refl _ _).alloc (Nat.le_refl _) _⟩
  all_goals rw [← H.out]
  all_goals (first | rfl | (simp [right, *]; done) | (simp [right, *]; omega) | (simp [right]; omega))
theorem right4 (side : Int) (w : World) : Calls Tryd.prog 43 #[.agg #[.int .i64 4, .int .i64 side, .int .i64 0, .int .i64 0, .int .i64 0, .int .u64 0, .int .u64 0, .string ⟨#[]⟩]] w fun e w' => e = .returned (.bool (right ⟨4, side, 0, 0, 0, 0, []⟩)) ∧ Below w.heap.size w w' := by
  by_cases h0 : side = 0
  · subst h0; exact right4s0 w
  · by_cases h1 : side = 1
    · subst h1; exact right4s1 w
    · exact right4sx side h0 h1 w
set_option maxHeartbeats 1000000 in
theorem right6s0 (n : Int) (w : World) : Calls Tryd.prog 43 #[.agg #[.int .i64 6, .int .i64 0, .int .i64 n, .int .i64 0, .int .i64 0, .int .u64 0, .int .u64 0, .string ⟨#[]⟩]] w fun e w' => e = .returned (.bool (right ⟨6, 0, n, 0, 0, 0, []⟩)) ∧ Below w.heap.size w w' := by
  have heq := eqZ
  have b01 : bits .and .i64 0 1 = 0 := by kernel_rfl
  have b04 : bits .and .i64 0 4 = 0 := by kernel_rfl
  have b11 : bits .and .i64 1 1 = 1 := by kernel_rfl
  have b14 : bits .and .i64 1 4 = 0 := by kernel_rfl
  have b21 : bits .and .i64 2 1 = 0 := by kernel_rfl
  have b24 : bits .and .i64 2 4 = 0 := by kernel_rfl
  have b31 : bits .and .i64 3 1 = 1 := by kernel_rfl
  have b34 : bits .and .i64 3 4 = 0 := by kernel_rfl
  generalize h : right ⟨6, 0, n, 0, 0, 0, []⟩ = r
  have H := Lib.hid h
  clear h
  go_enter Tryd.func43, Tryd.ntmps43
  go_wp2_with (first | (go_at_call 30; refine (has6 _).mono ?_; rintro e w' ⟨rfl, rfl⟩) | (go_at_call 55; refine (bounds6 _).mono ?_; rintro e w' ⟨rfl, rfl⟩))
  all_goals go_ret
  all_goals refine ⟨?_, (Below.refl _ _).alloc (Nat.le_refl _) _⟩
  all_goals rw [← H.out]
  all_goals (first | rfl | (simp [right, *]; done) | (simp [right, *]; omega) | (simp [right]; omega))
set_option maxHeartbeats 1000000 in
theorem right6s1 (n : Int) (w : World) : Calls Tryd.prog 43 #[.agg #[.int .i64 6, .int .i64 1, .int .i64 n, .int .i64 0, .int .i64 0, .int .u64 0, .int .u64 0, .string ⟨#[]⟩]] w fun e w' => e = .returned (.bool (right ⟨6, 1, n, 0, 0, 0, []⟩)) ∧ Below w.heap.size w w' := by
  have heq := eqZ
  have b01 : bits .and .i64 0 1 = 0 := by kernel_rfl
  have b04 : bits .and .i64 0 4 = 0 := by kernel_rfl
  have b11 : bits .and .i64 1 1 = 1 := by kernel_rfl
  have b14 : bits .and .i64 1 4 = 0 := by kernel_rfl
  have b21 : bits .and .i64 2 1 = 0 := by kernel_rfl
  have b24 : bits .and .i64 2 4 = 0 := by kernel_rfl
  have b31 : bits .and .i64 3 1 = 1 := by kernel_rfl
  have b34 : bits .and .i64 3 4 = 0 := by kernel_rfl
  generalize h : right ⟨6, 1, n, 0, 0, 0, []⟩ = r
  have H := Lib.hid h
  clear h
  go_enter Tryd.func43, Tryd.ntmps43
  go_wp2_with (first | (go_at_call 30; refine (has6 _).mono ?_; rintro e w' ⟨rfl, rfl⟩) | (go_at_call 55; refine (bounds6 _).mono ?_; rintro e w' ⟨rfl, rfl⟩))
  all_goals go_ret
  all_goals refine ⟨?_, (Below.refl _ _).alloc (Nat.le_refl _) _⟩
  all_goals rw [← H.out]
  all_goals (first | rfl | (simp [right, *]; done) | (simp [right, *]; omega) | (simp [right]; omega))
set_option maxHeartbeats 1000000 in
theorem right6sx (side : Int) (n : Int) (h0 : side ≠ 0) (h1 : side ≠ 1) (w : World) : Calls Tryd.prog 43 #[.agg #[.int .i64 6, .int .i64 side, .int .i64 n, .int .i64 0, .int .i64 0, .int .u64 0, .int .u64 0, .string ⟨#[]⟩]] w fun e w' => e = .returned (.bool (right ⟨6, side, n, 0, 0, 0, []⟩)) ∧ Below w.heap.size w w' := by
  have heq := eqZ
  have b01 : bits .and .i64 0 1 = 0 := by kernel_rfl
  have b04 : bits .and .i64 0 4 = 0 := by kernel_rfl
  have b11 : bits .and .i64 1 1 = 1 := by kernel_rfl
  have b14 : bits .and .i64 1 4 = 0 := by kernel_rfl
  have b21 : bits .and .i64 2 1 = 0 := by kernel_rfl
  have b24 : bits .and .i64 2 4 = 0 := by kernel_rfl
  have b31 : bits .and .i64 3 1 = 1 := by kernel_rfl
  have b34 : bits .and .i64 3 4 = 0 := by kernel_rfl
  have a0 : (side == 0) = false := by simpa using h0
  have a1 : (side == 1) = false := by simpa using h1
  have a2 : (side != 0) = true := by simpa using h0
  have a3 : (side != 1) = true := by simpa using h1
  generalize h : right ⟨6, side, n, 0, 0, 0, []⟩ = r
  have H := Lib.hid h
  clear h
  go_enter Tryd.func43, Tryd.ntmps43
  go_wp2_with (first | (go_at_call 30; refine (has6 _).mono ?_; rintro e w' ⟨rfl, rfl⟩) | (go_at_call 55; refine (bounds6 _).mono ?_; rintro e w' ⟨rfl, rfl⟩))
  all_goals go_ret
  all_goals refine ⟨?_, (Below.refl _ _).alloc (Nat.le_refl _) _⟩
  all_goals rw [← H.out]
  all_goals (first | rfl | (simp [right, *]; done) | (simp [right, *]; omega) | (simp [right]; omega))
theorem right6 (side n : Int) (w : World) : Calls Tryd.prog 43 #[.agg #[.int .i64 6, .int .i64 side, .int .i64 n, .int .i64 0, .int .i64 0, .int .u64 0, .int .u64 0, .string ⟨#[]⟩]] w fun e w' => e = .returned (.bool (right ⟨6, side, n, 0, 0, 0, []⟩)) ∧ Below w.heap.size w w' := by
  by_cases h0 : side = 0
  · subst h0; exact right6s0 n w
  · by_cases h1 : side = 1
    · subst h1; exact right6s1 n w
    · exact right6sx side n h0 h1 w
set_option maxHeartbeats 1000000 in
theorem right3 (c f t : Int) (d : ByteArray) (w : World) : Calls Tryd.prog 43 #[.agg #[.int .i64 3, .int .i64 0, .int .i64 0, .int .i64 c, .int .i64 f, .int .u64 0, .int .u64 t, .string d]] w fun e w' => e = .returned (.bool (rightP c f d)) ∧ Below w.heap.size w w' := by
  have hpr := fun w => packetRight c f 0 t d w
  generalize rightP c f d = q at hpr ⊢
  have HP := Lib.hid hpr
  clear hpr
  go_enter Tryd.func43, Tryd.ntmps43
  go_wp2_with (first | (go_at_call 30; refine (has3 _).mono ?_; rintro e w' ⟨rfl, rfl⟩) | (go_at_call 55; refine (bounds3 _).mono ?_; rintro e w' ⟨rfl, rfl⟩))
  refine (HP.out _).mono ?_
  rintro e w1 ⟨rfl, hb1⟩
  obtain ⟨hcl, hfr⟩ := bcell hb1
  cases q
  all_goals go_wp2
  all_goals go_ret
  all_goals exact ⟨rfl, bel ((Below.refl _ _).alloc (Nat.le_refl _) _) hb1 (by simp)⟩
end Go.Proofs.YtoahfegeeimomaaDoor.Right
