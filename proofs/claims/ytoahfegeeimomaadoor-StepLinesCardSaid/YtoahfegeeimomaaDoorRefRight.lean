/- The reference's Right, at steps whose numbers are in range. Conditions: as stated in each theorem. -/
import Derived.Test.YtoahfegeeimomaaDoorRight
set_option linter.unusedVariables false
set_option linter.unusedSimpArgs false
namespace Go.Proofs.YtoahfegeeimomaaDoor.RefRight
open Go.RowKit Base RowD Number TextP LinesPlain Num Kinds Right
set_option maxRecDepth 100000

set_option maxHeartbeats 2000000 in
theorem refRight1 (n : Nat) (hn : n ≤ 2147483647) (w : World) : Calls Tryd.prog 42 #[.agg #[.int .i64 1, .int .i64 0, .int .i64 (n : Int), .int .i64 0, .int .i64 0, .int .u64 0, .int .u64 0, .string ⟨#[]⟩]] w fun e w' => e = .returned (.bool true) ∧ Below w.heap.size w w' := by
  have heq := eqZ
  have a1 : ¬ (n : Int) < 0 := by omega
  have a2 : ¬ (2147483647 : Int) < (n : Int) := by omega
  go_enter Tryd.func42, Tryd.ntmps42
  go_wp2_with (go_at_call 36; refine (refHas1 _).mono ?_; rintro e w1 ⟨rfl, hb1⟩)
  obtain ⟨hcl, hfr⟩ := bcell hb1
  have hsz : w.heap.size < w1.heap.size := by have := hb1.size; simp at this; omega
  have HB := Lib.hid (bel ((Below.refl w.heap.size w).alloc (Nat.le_refl _) _) hb1 (by simp))
  clear hb1
  go_quiet ((go_at_call 39; exact Calls.quiet_of_same (most1 _)))
  go_wp2_with (first | (go_at_call 37; ((with_reducible refine (in1s _).mono ?_); rintro e w' ⟨rfl, rfl⟩)) | (go_at_call 37; ((with_reducible refine (in1p _).mono ?_); rintro e w' ⟨rfl, rfl⟩)))
  all_goals go_ret
  all_goals exact ⟨rfl, belowDrewN HB.out _⟩
set_option maxHeartbeats 2000000 in
theorem refRight5 (n : Nat) (hn : n ≤ 7) (w : World) : Calls Tryd.prog 42 #[.agg #[.int .i64 5, .int .i64 0, .int .i64 (n : Int), .int .i64 0, .int .i64 0, .int .u64 0, .int .u64 0, .string ⟨#[]⟩]] w fun e w' => e = .returned (.bool true) ∧ Below w.heap.size w w' := by
  have heq := eqZ
  have a1 : ¬ (n : Int) < 0 := by omega
  have a2 : ¬ (7 : Int) < (n : Int) := by omega
  go_enter Tryd.func42, Tryd.ntmps42
  go_wp2_with (go_at_call 36; refine (refHas5 _).mono ?_; rintro e w1 ⟨rfl, hb1⟩)
  obtain ⟨hcl, hfr⟩ := bcell hb1
  have hsz : w.heap.size < w1.heap.size := by have := hb1.size; simp at this; omega
  have HB := Lib.hid (bel ((Below.refl w.heap.size w).alloc (Nat.le_refl _) _) hb1 (by simp))
  clear hb1
  go_quiet ((go_at_call 39; exact Calls.quiet_of_same (most5 _)))
  go_wp2_with (first | (go_at_call 37; ((with_reducible refine (in1s _).mono ?_); rintro e w' ⟨rfl, rfl⟩)) | (go_at_call 37; ((with_reducible refine (in1p _).mono ?_); rintro e w' ⟨rfl, rfl⟩)))
  all_goals go_ret
  all_goals exact ⟨rfl, belowDrewN HB.out _⟩
set_option maxHeartbeats 2000000 in
theorem refRight2s0 (w : World) : Calls Tryd.prog 42 #[.agg #[.int .i64 2, .int .i64 0, .int .i64 0, .int .i64 0, .int .i64 0, .int .u64 0, .int .u64 0, .string ⟨#[]⟩]] w fun e w' => e = .returned (.bool true) ∧ Below w.heap.size w w' := by
  have heq := eqZ
  go_enter Tryd.func42, Tryd.ntmps42
  go_wp2_with (go_at_call 36; refine (refHas2 _).mono ?_; rintro e w1 ⟨rfl, hb1⟩)
  obtain ⟨hcl, hfr⟩ := bcell hb1
  have hsz : w.heap.size < w1.heap.size := by have := hb1.size; simp at this; omega
  have HB := Lib.hid (bel ((Below.refl w.heap.size w).alloc (Nat.le_refl _) _) hb1 (by simp))
  clear hb1
  go_quiet ((go_at_call 39; exact Calls.quiet_of_same (most2 _)))
  go_wp2_with (first | (go_at_call 37; ((with_reducible refine (in2s _).mono ?_); rintro e w' ⟨rfl, rfl⟩)) | (go_at_call 37; ((with_reducible refine (in2p _).mono ?_); rintro e w' ⟨rfl, rfl⟩)))
  all_goals go_ret
  all_goals exact ⟨rfl, belowDrewN HB.out _⟩
set_option maxHeartbeats 2000000 in
theorem refRight2s1 (w : World) : Calls Tryd.prog 42 #[.agg #[.int .i64 2, .int .i64 1, .int .i64 0, .int .i64 0, .int .i64 0, .int .u64 0, .int .u64 0, .string ⟨#[]⟩]] w fun e w' => e = .returned (.bool true) ∧ Below w.heap.size w w' := by
  have heq := eqZ
  go_enter Tryd.func42, Tryd.ntmps42
  go_wp2_with (go_at_call 36; refine (refHas2 _).mono ?_; rintro e w1 ⟨rfl, hb1⟩)
  obtain ⟨hcl, hfr⟩ := bcell hb1
  have hsz : w.heap.size < w1.heap.size := by have := hb1.size; simp at this; omega
  have HB := Lib.hid (bel ((Below.refl w.heap.size w).alloc (Nat.le_refl _) _) hb1 (by simp))
  clear hb1
  go_quiet ((go_at_call 39; exact Calls.quiet_of_same (most2 _)))
  go_wp2_with (first | (go_at_call 37; ((with_reducible refine (in2s _).mono ?_); rintro e w' ⟨rfl, rfl⟩)) | (go_at_call 37; ((with_reducible refine (in2p _).mono ?_); rintro e w' ⟨rfl, rfl⟩)))
  all_goals go_ret
  all_goals exact ⟨rfl, belowDrewN HB.out _⟩
set_option maxHeartbeats 2000000 in
theorem refRight4s0 (w : World) : Calls Tryd.prog 42 #[.agg #[.int .i64 4, .int .i64 0, .int .i64 0, .int .i64 0, .int .i64 0, .int .u64 0, .int .u64 0, .string ⟨#[]⟩]] w fun e w' => e = .returned (.bool true) ∧ Below w.heap.size w w' := by
  have heq := eqZ
  go_enter Tryd.func42, Tryd.ntmps42
  go_wp2_with (go_at_call 36; refine (refHas4 _).mono ?_; rintro e w1 ⟨rfl, hb1⟩)
  obtain ⟨hcl, hfr⟩ := bcell hb1
  have hsz : w.heap.size < w1.heap.size := by have := hb1.size; simp at this; omega
  have HB := Lib.hid (bel ((Below.refl w.heap.size w).alloc (Nat.le_refl _) _) hb1 (by simp))
  clear hb1
  go_quiet ((go_at_call 39; exact Calls.quiet_of_same (most4 _)))
  go_wp2_with (first | (go_at_call 37; ((with_reducible refine (in2s _).mono ?_); rintro e w' ⟨rfl, rfl⟩)) | (go_at_call 37; ((with_reducible refine (in2p _).mono ?_); rintro e w' ⟨rfl, rfl⟩)))
  all_goals go_ret
  all_goals exact ⟨rfl, belowDrewN HB.out _⟩
set_option maxHeartbeats 2000000 in
theorem refRight4s1 (w : World) : Calls Tryd.prog 42 #[.agg #[.int .i64 4, .int .i64 1, .int .i64 0, .int .i64 0, .int .i64 0, .int .u64 0, .int .u64 0, .string ⟨#[]⟩]] w fun e w' => e = .returned (.bool true) ∧ Below w.heap.size w w' := by
  have heq := eqZ
  go_enter Tryd.func42, Tryd.ntmps42
  go_wp2_with (go_at_call 36; refine (refHas4 _).mono ?_; rintro e w1 ⟨rfl, hb1⟩)
  obtain ⟨hcl, hfr⟩ := bcell hb1
  have hsz : w.heap.size < w1.heap.size := by have := hb1.size; simp at this; omega
  have HB := Lib.hid (bel ((Below.refl w.heap.size w).alloc (Nat.le_refl _) _) hb1 (by simp))
  clear hb1
  go_quiet ((go_at_call 39; exact Calls.quiet_of_same (most4 _)))
  go_wp2_with (first | (go_at_call 37; ((with_reducible refine (in2s _).mono ?_); rintro e w' ⟨rfl, rfl⟩)) | (go_at_call 37; ((with_reducible refine (in2p _).mono ?_); rintro e w' ⟨rfl, rfl⟩)))
  all_goals go_ret
  all_goals exact ⟨rfl, belowDrewN HB.out _⟩
set_option maxHeartbeats 2000000 in
theorem refRight7 (w : World) : Calls Tryd.prog 42 #[.agg #[.int .i64 7, .int .i64 0, .int .i64 0, .int .i64 0, .int .i64 0, .int .u64 0, .int .u64 0, .string ⟨#[]⟩]] w fun e w' => e = .returned (.bool true) ∧ Below w.heap.size w w' := by
  have heq := eqZ
  go_enter Tryd.func42, Tryd.ntmps42
  go_wp2_with (go_at_call 36; refine (refHas7 _).mono ?_; rintro e w1 ⟨rfl, hb1⟩)
  obtain ⟨hcl, hfr⟩ := bcell hb1
  have hsz : w.heap.size < w1.heap.size := by have := hb1.size; simp at this; omega
  have HB := Lib.hid (bel ((Below.refl w.heap.size w).alloc (Nat.le_refl _) _) hb1 (by simp))
  clear hb1
  go_quiet ((go_at_call 39; exact Calls.quiet_of_same (most7 _)))
  go_wp2_with (first | (go_at_call 37; ((with_reducible refine (in5s _).mono ?_); rintro e w' ⟨rfl, rfl⟩)) | (go_at_call 37; ((with_reducible refine (in5p _).mono ?_); rintro e w' ⟨rfl, rfl⟩)))
  all_goals go_ret
  all_goals exact ⟨rfl, belowDrewN HB.out _⟩
set_option maxHeartbeats 2000000 in
theorem refRight8 (w : World) : Calls Tryd.prog 42 #[.agg #[.int .i64 8, .int .i64 0, .int .i64 0, .int .i64 0, .int .i64 0, .int .u64 0, .int .u64 0, .string ⟨#[]⟩]] w fun e w' => e = .returned (.bool true) ∧ Below w.heap.size w w' := by
  have heq := eqZ
  go_enter Tryd.func42, Tryd.ntmps42
  go_wp2_with (go_at_call 36; refine (refHas8 _).mono ?_; rintro e w1 ⟨rfl, hb1⟩)
  obtain ⟨hcl, hfr⟩ := bcell hb1
  have hsz : w.heap.size < w1.heap.size := by have := hb1.size; simp at this; omega
  have HB := Lib.hid (bel ((Below.refl w.heap.size w).alloc (Nat.le_refl _) _) hb1 (by simp))
  clear hb1
  go_quiet ((go_at_call 39; exact Calls.quiet_of_same (most8 _)))
  go_wp2_with (first | (go_at_call 37; ((with_reducible refine (in5s _).mono ?_); rintro e w' ⟨rfl, rfl⟩)) | (go_at_call 37; ((with_reducible refine (in5p _).mono ?_); rintro e w' ⟨rfl, rfl⟩)))
  all_goals go_ret
  all_goals exact ⟨rfl, belowDrewN HB.out _⟩
set_option maxHeartbeats 2000000 in
theorem refRight6s0 (n : Nat) (hn : n ≤ 4) (h0 : 0 < n) (w : World) : Calls Tryd.prog 42 #[.agg #[.int .i64 6, .int .i64 0, .int .i64 (n : Int), .int .i64 0, .int .i64 0, .int .u64 0, .int .u64 0, .string ⟨#[]⟩]] w fun e w' => e = .returned (.bool true) ∧ Below w.heap.size w w' := by
  have heq := eqZ
  have a1 : ¬ (n : Int) < 0 := by omega
  have a2 : ¬ (4 : Int) < (n : Int) := by omega
  have a3 : ((n : Int) == 0) = false := by simp; omega
  go_enter Tryd.func42, Tryd.ntmps42
  go_wp2_with (go_at_call 36; refine (refHas6 _).mono ?_; rintro e w1 ⟨rfl, hb1⟩)
  obtain ⟨hcl, hfr⟩ := bcell hb1
  have hsz : w.heap.size < w1.heap.size := by have := hb1.size; simp at this; omega
  have HB := Lib.hid (bel ((Below.refl w.heap.size w).alloc (Nat.le_refl _) _) hb1 (by simp))
  clear hb1
  go_quiet ((go_at_call 39; exact Calls.quiet_of_same (most6 _)))
  go_wp2_with (first | (go_at_call 37; ((with_reducible refine (in4s _).mono ?_); rintro e w' ⟨rfl, rfl⟩)) | (go_at_call 37; ((with_reducible refine (in4p _).mono ?_); rintro e w' ⟨rfl, rfl⟩)))
  all_goals go_ret
  all_goals exact ⟨rfl, belowDrewN HB.out _⟩
set_option maxHeartbeats 2000000 in
theorem refRight6z0 (w : World) : Calls Tryd.prog 42 #[.agg #[.int .i64 6, .int .i64 0, .int .i64 0, .int .i64 0, .int .i64 0, .int .u64 0, .int .u64 0, .string ⟨#[]⟩]] w fun e w' => e = .returned (.bool false) ∧ Below w.heap.size w w' := by
  have heq := eqZ
  go_enter Tryd.func42, Tryd.ntmps42
  go_wp2_with (go_at_call 36; refine (refHas6 _).mono ?_; rintro e w1 ⟨rfl, hb1⟩)
  obtain ⟨hcl, hfr⟩ := bcell hb1
  have hsz : w.heap.size < w1.heap.size := by have := hb1.size; simp at this; omega
  have HB := Lib.hid (bel ((Below.refl w.heap.size w).alloc (Nat.le_refl _) _) hb1 (by simp))
  clear hb1
  go_quiet ((go_at_call 39; exact Calls.quiet_of_same (most6 _)))
  go_wp2_with (first | (go_at_call 37; ((with_reducible refine (in4s _).mono ?_); rintro e w' ⟨rfl, rfl⟩)) | (go_at_call 37; ((with_reducible refine (in4p _).mono ?_); rintro e w' ⟨rfl, rfl⟩)))
  all_goals go_ret
  all_goals exact ⟨rfl, belowDrewN HB.out _⟩
set_option maxHeartbeats 2000000 in
theorem refRight6s1 (n : Nat) (hn : n ≤ 4) (h0 : 0 < n) (w : World) : Calls Tryd.prog 42 #[.agg #[.int .i64 6, .int .i64 1, .int .i64 (n : Int), .int .i64 0, .int .i64 0, .int .u64 0, .int .u64 0, .string ⟨#[]⟩]] w fun e w' => e = .returned (.bool true) ∧ Below w.heap.size w w' := by
  have heq := eqZ
  have a1 : ¬ (n : Int) < 0 := by omega
  have a2 : ¬ (4 : Int) < (n : Int) := by omega
  have a3 : ((n : Int) == 0) = false := by simp; omega
  go_enter Tryd.func42, Tryd.ntmps42
  go_wp2_with (go_at_call 36; refine (refHas6 _).mono ?_; rintro e w1 ⟨rfl, hb1⟩)
  obtain ⟨hcl, hfr⟩ := bcell hb1
  have hsz : w.heap.size < w1.heap.size := by have := hb1.size; simp at this; omega
  have HB := Lib.hid (bel ((Below.refl w.heap.size w).alloc (Nat.le_refl _) _) hb1 (by simp))
  clear hb1
  go_quiet ((go_at_call 39; exact Calls.quiet_of_same (most6 _)))
  go_wp2_with (first | (go_at_call 37; ((with_reducible refine (in4s _).mono ?_); rintro e w' ⟨rfl, rfl⟩)) | (go_at_call 37; ((with_reducible refine (in4p _).mono ?_); rintro e w' ⟨rfl, rfl⟩)))
  all_goals go_ret
  all_goals exact ⟨rfl, belowDrewN HB.out _⟩
set_option maxHeartbeats 2000000 in
theorem refRight6z1 (w : World) : Calls Tryd.prog 42 #[.agg #[.int .i64 6, .int .i64 1, .int .i64 0, .int .i64 0, .int .i64 0, .int .u64 0, .int .u64 0, .string ⟨#[]⟩]] w fun e w' => e = .returned (.bool false) ∧ Below w.heap.size w w' := by
  have heq := eqZ
  go_enter Tryd.func42, Tryd.ntmps42
  go_wp2_with (go_at_call 36; refine (refHas6 _).mono ?_; rintro e w1 ⟨rfl, hb1⟩)
  obtain ⟨hcl, hfr⟩ := bcell hb1
  have hsz : w.heap.size < w1.heap.size := by have := hb1.size; simp at this; omega
  have HB := Lib.hid (bel ((Below.refl w.heap.size w).alloc (Nat.le_refl _) _) hb1 (by simp))
  clear hb1
  go_quiet ((go_at_call 39; exact Calls.quiet_of_same (most6 _)))
  go_wp2_with (first | (go_at_call 37; ((with_reducible refine (in4s _).mono ?_); rintro e w' ⟨rfl, rfl⟩)) | (go_at_call 37; ((with_reducible refine (in4p _).mono ?_); rintro e w' ⟨rfl, rfl⟩)))
  all_goals go_ret
  all_goals exact ⟨rfl, belowDrewN HB.out _⟩
set_option maxHeartbeats 2000000 in
theorem refRight3 (c f t : Int) (d : ByteArray) (w : World) : Calls Tryd.prog 42 #[.agg #[.int .i64 3, .int .i64 0, .int .i64 0, .int .i64 c, .int .i64 f, .int .u64 0, .int .u64 t, .string d]] w fun e w' => e = .returned (.bool (rightP c f d)) ∧ Below w.heap.size w w' := by
  have hpr := fun w => refPacketRight c f 0 t d w
  generalize rightP c f d = q at hpr ⊢
  have HP := Lib.hid hpr
  clear hpr
  have RE := Lib.hid (Row.new w #[.int .i64 3, .int .i64 0, .int .i64 0, .int .i64 c, .int .i64 f, .int .u64 0, .int .u64 t, .string d] 40)
  go_enter Tryd.func42, Tryd.ntmps42
  go_wp2_with (go_at_call 36; refine (refHas3 _).mono ?_; rintro e w1 ⟨rfl, hb1⟩)
  obtain ⟨hcl, hfr⟩ := bcell hb1
  have hsz : w.heap.size < w1.heap.size := by have := hb1.size; simp at this; omega
  have HB := Lib.hid (bel ((Below.refl w.heap.size w).alloc (Nat.le_refl _) _) hb1 (by simp))
  have RE1 := Lib.hid (RE.out.below hb1)
  clear hb1
  go_quiet ((go_at_call 39; exact Calls.quiet_of_same (most3 _)))
  go_wp2_with (first | (go_at_call 37; ((with_reducible refine (in3s _).mono ?_); rintro e w' ⟨rfl, rfl⟩)) | (go_at_call 37; ((with_reducible refine (in3p _).mono ?_); rintro e w' ⟨rfl, rfl⟩)))
  refine (HP.out _).mono ?_
  rintro e w2 ⟨rfl, hb2⟩
  have c5 := (((RE1.out.drewN nq).below hb2).cell 5 (v := .int .u64 0) rfl)
  have HB2 := Lib.hid (bel (belowDrewN HB.out _) hb2 (belowDrewN HB.out _).size)
  clear hb2
  cases q
  all_goals go_wp2
  all_goals go_ret
  all_goals exact ⟨rfl, HB2.out⟩
end Go.Proofs.YtoahfegeeimomaaDoor.RefRight
