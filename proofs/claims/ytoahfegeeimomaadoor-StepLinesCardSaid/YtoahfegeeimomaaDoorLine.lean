/- step.Line at the steps that a line can be. Conditions: as stated in each theorem. -/
import Derived.Test.YtoahfegeeimomaaDoorRight
import Derived.Test.YtoahfegeeimomaaDoorName
set_option linter.unusedVariables false
set_option linter.unusedSimpArgs false
namespace Go.Proofs.YtoahfegeeimomaaDoor.Line
open Go.RowKit Base RowD Number TextP LinesPlain Num Kinds Right Hex
set_option maxRecDepth 100000

open Go.Proofs.YtoahfegeeimomaaDoor.Name (I D)
def lineB (x : St) : ByteArray := ⟨(lineL x).toArray⟩
theorem ba_ext {a b : ByteArray} (h : a.data.toList = b.data.toList) : a = b := by
  obtain ⟨⟨x⟩⟩ := a
  obtain ⟨⟨y⟩⟩ := b
  have h' : x = y := h
  rw [h']
theorem bits01 : bits .and .i64 0 1 = 0 := by kernel_rfl
theorem bits02 : bits .and .i64 0 2 = 0 := by kernel_rfl
theorem bits04 : bits .and .i64 0 4 = 0 := by kernel_rfl
theorem bits11 : bits .and .i64 1 1 = 1 := by kernel_rfl
theorem bits12 : bits .and .i64 1 2 = 0 := by kernel_rfl
theorem bits14 : bits .and .i64 1 4 = 0 := by kernel_rfl
theorem bits21 : bits .and .i64 2 1 = 0 := by kernel_rfl
theorem bits22 : bits .and .i64 2 2 = 2 := by kernel_rfl
theorem bits24 : bits .and .i64 2 4 = 0 := by kernel_rfl
theorem bits31 : bits .and .i64 3 1 = 1 := by kernel_rfl
theorem bits32 : bits .and .i64 3 2 = 2 := by kernel_rfl
theorem bits34 : bits .and .i64 3 4 = 0 := by kernel_rfl
theorem bits41 : bits .and .i64 4 1 = 0 := by kernel_rfl
theorem bits42 : bits .and .i64 4 2 = 0 := by kernel_rfl
theorem bits44 : bits .and .i64 4 4 = 4 := by kernel_rfl
theorem I_data (z : Int) : (I z).data.toList = Lib.itoa z := rfl
theorem D_data (n : Nat) : (D n).data.toList = Lib.decDigits n := rfl

set_option maxHeartbeats 1000000 in
theorem line0_no (h : right ⟨0, 0, 0, 0, 0, 0, []⟩ = false) (w : World) : Calls Tryd.prog 15 #[.agg #[.int .i64 0, .int .i64 0, .int .i64 0, .int .i64 0, .int .i64 0, .int .u64 0, .int .u64 0, .string ⟨#[]⟩]] w fun e w' => e = .returned (.tuple #[.string ⟨#[]⟩, .int .i64 1]) ∧ Below w.heap.size w w' := by
  have H := Lib.hid h
  clear h
  go_enter Tryd.func15, Tryd.ntmps15
  go_wp2_with (go_at_call 43; refine (right0 _).mono ?_; rintro e w1 ⟨rfl, hb1⟩; rw [H.out])
  go_ret2
  exact ⟨rfl, bel ((Below.refl _ _).alloc (Nat.le_refl _) _) hb1 (by simp)⟩
set_option maxHeartbeats 1000000 in
theorem line1_no (n : Int) (h : right ⟨1, 0, n, 0, 0, 0, []⟩ = false) (w : World) : Calls Tryd.prog 15 #[.agg #[.int .i64 1, .int .i64 0, .int .i64 n, .int .i64 0, .int .i64 0, .int .u64 0, .int .u64 0, .string ⟨#[]⟩]] w fun e w' => e = .returned (.tuple #[.string ⟨#[]⟩, .int .i64 1]) ∧ Below w.heap.size w w' := by
  have H := Lib.hid h
  clear h
  go_enter Tryd.func15, Tryd.ntmps15
  go_wp2_with (go_at_call 43; refine (right1 n _).mono ?_; rintro e w1 ⟨rfl, hb1⟩; rw [H.out])
  go_ret2
  exact ⟨rfl, bel ((Below.refl _ _).alloc (Nat.le_refl _) _) hb1 (by simp)⟩
set_option maxHeartbeats 2000000 in
theorem line1_yes (n : Int) (h : right ⟨1, 0, n, 0, 0, 0, []⟩ = true) (w : World) (hv : Vars w) : Calls Tryd.prog 15 #[.agg #[.int .i64 1, .int .i64 0, .int .i64 n, .int .i64 0, .int .i64 0, .int .u64 0, .int .u64 0, .string ⟨#[]⟩]] w fun e w' => e = .returned (.tuple #[.string (lineB ⟨1, 0, n, 0, 0, 0, []⟩), .int .i64 0]) ∧ Below w.heap.size w w' := by
  have H := Lib.hid h
  have HV := Lib.hid (fun w' (hb : Below w.heap.size w w') => hv.below hb)
  have hr : 0 ≤ n ∧ n ≤ 2147483647 := by simp [right] at h; omega
  have HL := Lib.hid (show ((⟨#[112, 105, 99, 107]⟩ : ByteArray) ++ (⟨#[32]⟩ ++ I n)) = lineB ⟨1, 0, n, 0, 0, 0, []⟩ from ba_ext (by simp [lineB, lineL, lineW, joinSp, wordL, I_data]))
  have z0 := Name.I_size (z := n) (by omega) (by omega)
  have p0 := fun w => run_string_add_sum (P := Tryd.prog) w ⟨#[32]⟩ (I n) (by rw [show (⟨#[32]⟩ : ByteArray).size = 1 from rfl]; omega)
  have r0 := fun w => run_string_add_sum (P := Tryd.prog) w ((⟨#[112, 105, 99, 107]⟩ : ByteArray)) (⟨#[32]⟩ ++ I n) (by simp only [ByteArray.size_append, show (⟨#[32]⟩ : ByteArray).size = 1 from rfl, show (⟨#[112, 105, 99, 107]⟩ : ByteArray).size = 4 from rfl]; omega)
  have q1 := bits21
  have q2 := bits22
  have q4 := bits24
  clear h hv z0
  go_enter Tryd.func15, Tryd.ntmps15
  go_wp2_with (first | (go_at_call 43; refine (right1 n _).mono ?_; rintro e w1 ⟨rfl, hb1⟩; rw [H.out]; obtain ⟨hcl, hfr⟩ := bcell hb1; have hsz : w.heap.size < w1.heap.size := by (have := hb1.size; simp at this; omega)) | (go_at_call 30; refine (has1 _).mono ?_; rintro e w' ⟨rfl, rfl⟩) | (go_at_call 29; refine (word1 _).mono ?_; rintro e w' ⟨rfl, rfl⟩) | (go_at_call 18; (with_reducible refine (Name.intI n (by omega) (by omega) _ (HV.out _ (bel (bel ((Below.refl w.heap.size w).alloc (Nat.le_refl _) _) hb1 (by simp)) (Below.refl _ _) (by have := hb1.size; simp at this; omega))).tab).mono ?_); rintro e wI0 ⟨rfl, hbI0⟩; obtain ⟨hclI0, hfrI0⟩ := bcell hbI0; have hszI0 : w.heap.size < wI0.heap.size := by (have := hbI0.size; have := hb1.size; simp at *; omega)))
  go_ret2
  rw [← HL.out]
  exact ⟨rfl, bel (bel ((Below.refl w.heap.size w).alloc (Nat.le_refl _) _) hb1 (by simp)) hbI0 (bel ((Below.refl w.heap.size w).alloc (Nat.le_refl _) _) hb1 (by simp)).size⟩
set_option maxHeartbeats 1000000 in
theorem line2_no (side : Int) (h : right ⟨2, side, 0, 0, 0, 0, []⟩ = false) (w : World) : Calls Tryd.prog 15 #[.agg #[.int .i64 2, .int .i64 side, .int .i64 0, .int .i64 0, .int .i64 0, .int .u64 0, .int .u64 0, .string ⟨#[]⟩]] w fun e w' => e = .returned (.tuple #[.string ⟨#[]⟩, .int .i64 1]) ∧ Below w.heap.size w w' := by
  have H := Lib.hid h
  clear h
  go_enter Tryd.func15, Tryd.ntmps15
  go_wp2_with (go_at_call 43; refine (right2 side _).mono ?_; rintro e w1 ⟨rfl, hb1⟩; rw [H.out])
  go_ret2
  exact ⟨rfl, bel ((Below.refl _ _).alloc (Nat.le_refl _) _) hb1 (by simp)⟩
set_option maxHeartbeats 2000000 in
theorem line2_yes (side : Int) (h : right ⟨2, side, 0, 0, 0, 0, []⟩ = true) (w : World) (hv : Vars w) : Calls Tryd.prog 15 #[.agg #[.int .i64 2, .int .i64 side, .int .i64 0, .int .i64 0, .int .i64 0, .int .u64 0, .int .u64 0, .string ⟨#[]⟩]] w fun e w' => e = .returned (.tuple #[.string (lineB ⟨2, side, 0, 0, 0, 0, []⟩), .int .i64 0]) ∧ Below w.heap.size w w' := by
  have H := Lib.hid h
  have HV := Lib.hid (fun w' (hb : Below w.heap.size w w') => hv.below hb)
  have hr : 0 ≤ side ∧ side ≤ 1 := by simp [right] at h; omega
  have HL := Lib.hid (show ((⟨#[116, 105, 99, 107]⟩ : ByteArray) ++ (⟨#[32]⟩ ++ I side)) = lineB ⟨2, side, 0, 0, 0, 0, []⟩ from ba_ext (by simp [lineB, lineL, lineW, joinSp, wordL, I_data]))
  have z0 := Name.I_size (z := side) (by omega) (by omega)
  have p0 := fun w => run_string_add_sum (P := Tryd.prog) w ⟨#[32]⟩ (I side) (by rw [show (⟨#[32]⟩ : ByteArray).size = 1 from rfl]; omega)
  have r0 := fun w => run_string_add_sum (P := Tryd.prog) w ((⟨#[116, 105, 99, 107]⟩ : ByteArray)) (⟨#[32]⟩ ++ I side) (by simp only [ByteArray.size_append, show (⟨#[32]⟩ : ByteArray).size = 1 from rfl, show (⟨#[116, 105, 99, 107]⟩ : ByteArray).size = 4 from rfl]; omega)
  have q1 := bits11
  have q2 := bits12
  have q4 := bits14
  clear h hv z0
  go_enter Tryd.func15, Tryd.ntmps15
  go_wp2_with (first | (go_at_call 43; refine (right2 side _).mono ?_; rintro e w1 ⟨rfl, hb1⟩; rw [H.out]; obtain ⟨hcl, hfr⟩ := bcell hb1; have hsz : w.heap.size < w1.heap.size := by (have := hb1.size; simp at this; omega)) | (go_at_call 30; refine (has2 _).mono ?_; rintro e w' ⟨rfl, rfl⟩) | (go_at_call 29; refine (word2 _).mono ?_; rintro e w' ⟨rfl, rfl⟩) | (go_at_call 18; (with_reducible refine (Name.intI side (by omega) (by omega) _ (HV.out _ (bel (bel ((Below.refl w.heap.size w).alloc (Nat.le_refl _) _) hb1 (by simp)) (Below.refl _ _) (by have := hb1.size; simp at this; omega))).tab).mono ?_); rintro e wI0 ⟨rfl, hbI0⟩; obtain ⟨hclI0, hfrI0⟩ := bcell hbI0; have hszI0 : w.heap.size < wI0.heap.size := by (have := hbI0.size; have := hb1.size; simp at *; omega)))
  go_ret2
  rw [← HL.out]
  exact ⟨rfl, bel (bel ((Below.refl w.heap.size w).alloc (Nat.le_refl _) _) hb1 (by simp)) hbI0 (bel ((Below.refl w.heap.size w).alloc (Nat.le_refl _) _) hb1 (by simp)).size⟩
set_option maxHeartbeats 1000000 in
theorem line4_no (side : Int) (h : right ⟨4, side, 0, 0, 0, 0, []⟩ = false) (w : World) : Calls Tryd.prog 15 #[.agg #[.int .i64 4, .int .i64 side, .int .i64 0, .int .i64 0, .int .i64 0, .int .u64 0, .int .u64 0, .string ⟨#[]⟩]] w fun e w' => e = .returned (.tuple #[.string ⟨#[]⟩, .int .i64 1]) ∧ Below w.heap.size w w' := by
  have H := Lib.hid h
  clear h
  go_enter Tryd.func15, Tryd.ntmps15
  go_wp2_with (go_at_call 43; refine (right4 side _).mono ?_; rintro e w1 ⟨rfl, hb1⟩; rw [H.out])
  go_ret2
  exact ⟨rfl, bel ((Below.refl _ _).alloc (Nat.le_refl _) _) hb1 (by simp)⟩
set_option maxHeartbeats 2000000 in
theorem line4_yes (side : Int) (h : right ⟨4, side, 0, 0, 0, 0, []⟩ = true) (w : World) (hv : Vars w) : Calls Tryd.prog 15 #[.agg #[.int .i64 4, .int .i64 side, .int .i64 0, .int .i64 0, .int .i64 0, .int .u64 0, .int .u64 0, .string ⟨#[]⟩]] w fun e w' => e = .returned (.tuple #[.string (lineB ⟨4, side, 0, 0, 0, 0, []⟩), .int .i64 0]) ∧ Below w.heap.size w w' := by
  have H := Lib.hid h
  have HV := Lib.hid (fun w' (hb : Below w.heap.size w w') => hv.below hb)
  have hr : 0 ≤ side ∧ side ≤ 1 := by simp [right] at h; omega
  have HL := Lib.hid (show ((⟨#[114, 101, 106, 101, 99, 116]⟩ : ByteArray) ++ (⟨#[32]⟩ ++ I side)) = lineB ⟨4, side, 0, 0, 0, 0, []⟩ from ba_ext (by simp [lineB, lineL, lineW, joinSp, wordL, I_data]))
  have z0 := Name.I_size (z := side) (by omega) (by omega)
  have p0 := fun w => run_string_add_sum (P := Tryd.prog) w ⟨#[32]⟩ (I side) (by rw [show (⟨#[32]⟩ : ByteArray).size = 1 from rfl]; omega)
  have r0 := fun w => run_string_add_sum (P := Tryd.prog) w ((⟨#[114, 101, 106, 101, 99, 116]⟩ : ByteArray)) (⟨#[32]⟩ ++ I side) (by simp only [ByteArray.size_append, show (⟨#[32]⟩ : ByteArray).size = 1 from rfl, show (⟨#[114, 101, 106, 101, 99, 116]⟩ : ByteArray).size = 6 from rfl]; omega)
  have q1 := bits11
  have q2 := bits12
  have q4 := bits14
  clear h hv z0
  go_enter Tryd.func15, Tryd.ntmps15
  go_wp2_with (first | (go_at_call 43; refine (right4 side _).mono ?_; rintro e w1 ⟨rfl, hb1⟩; rw [H.out]; obtain ⟨hcl, hfr⟩ := bcell hb1; have hsz : w.heap.size < w1.heap.size := by (have := hb1.size; simp at this; omega)) | (go_at_call 30; refine (has4 _).mono ?_; rintro e w' ⟨rfl, rfl⟩) | (go_at_call 29; refine (word4 _).mono ?_; rintro e w' ⟨rfl, rfl⟩) | (go_at_call 18; (with_reducible refine (Name.intI side (by omega) (by omega) _ (HV.out _ (bel (bel ((Below.refl w.heap.size w).alloc (Nat.le_refl _) _) hb1 (by simp)) (Below.refl _ _) (by have := hb1.size; simp at this; omega))).tab).mono ?_); rintro e wI0 ⟨rfl, hbI0⟩; obtain ⟨hclI0, hfrI0⟩ := bcell hbI0; have hszI0 : w.heap.size < wI0.heap.size := by (have := hbI0.size; have := hb1.size; simp at *; omega)))
  go_ret2
  rw [← HL.out]
  exact ⟨rfl, bel (bel ((Below.refl w.heap.size w).alloc (Nat.le_refl _) _) hb1 (by simp)) hbI0 (bel ((Below.refl w.heap.size w).alloc (Nat.le_refl _) _) hb1 (by simp)).size⟩
set_option maxHeartbeats 1000000 in
theorem line5_no (n : Int) (h : right ⟨5, 0, n, 0, 0, 0, []⟩ = false) (w : World) : Calls Tryd.prog 15 #[.agg #[.int .i64 5, .int .i64 0, .int .i64 n, .int .i64 0, .int .i64 0, .int .u64 0, .int .u64 0, .string ⟨#[]⟩]] w fun e w' => e = .returned (.tuple #[.string ⟨#[]⟩, .int .i64 1]) ∧ Below w.heap.size w w' := by
  have H := Lib.hid h
  clear h
  go_enter Tryd.func15, Tryd.ntmps15
  go_wp2_with (go_at_call 43; refine (right5 n _).mono ?_; rintro e w1 ⟨rfl, hb1⟩; rw [H.out])
  go_ret2
  exact ⟨rfl, bel ((Below.refl _ _).alloc (Nat.le_refl _) _) hb1 (by simp)⟩
set_option maxHeartbeats 2000000 in
theorem line5_yes (n : Int) (h : right ⟨5, 0, n, 0, 0, 0, []⟩ = true) (w : World) (hv : Vars w) : Calls Tryd.prog 15 #[.agg #[.int .i64 5, .int .i64 0, .int .i64 n, .int .i64 0, .int .i64 0, .int .u64 0, .int .u64 0, .string ⟨#[]⟩]] w fun e w' => e = .returned (.tuple #[.string (lineB ⟨5, 0, n, 0, 0, 0, []⟩), .int .i64 0]) ∧ Below w.heap.size w w' := by
  have H := Lib.hid h
  have HV := Lib.hid (fun w' (hb : Below w.heap.size w w') => hv.below hb)
  have hr : 0 ≤ n ∧ n ≤ 7 := by simp [right] at h; omega
  have HL := Lib.hid (show ((⟨#[99, 114, 97, 115, 104]⟩ : ByteArray) ++ (⟨#[32]⟩ ++ I n)) = lineB ⟨5, 0, n, 0, 0, 0, []⟩ from ba_ext (by simp [lineB, lineL, lineW, joinSp, wordL, I_data]))
  have z0 := Name.I_size (z := n) (by omega) (by omega)
  have p0 := fun w => run_string_add_sum (P := Tryd.prog) w ⟨#[32]⟩ (I n) (by rw [show (⟨#[32]⟩ : ByteArray).size = 1 from rfl]; omega)
  have r0 := fun w => run_string_add_sum (P := Tryd.prog) w ((⟨#[99, 114, 97, 115, 104]⟩ : ByteArray)) (⟨#[32]⟩ ++ I n) (by simp only [ByteArray.size_append, show (⟨#[32]⟩ : ByteArray).size = 1 from rfl, show (⟨#[99, 114, 97, 115, 104]⟩ : ByteArray).size = 5 from rfl]; omega)
  have q1 := bits21
  have q2 := bits22
  have q4 := bits24
  clear h hv z0
  go_enter Tryd.func15, Tryd.ntmps15
  go_wp2_with (first | (go_at_call 43; refine (right5 n _).mono ?_; rintro e w1 ⟨rfl, hb1⟩; rw [H.out]; obtain ⟨hcl, hfr⟩ := bcell hb1; have hsz : w.heap.size < w1.heap.size := by (have := hb1.size; simp at this; omega)) | (go_at_call 30; refine (has5 _).mono ?_; rintro e w' ⟨rfl, rfl⟩) | (go_at_call 29; refine (word5 _).mono ?_; rintro e w' ⟨rfl, rfl⟩) | (go_at_call 18; (with_reducible refine (Name.intI n (by omega) (by omega) _ (HV.out _ (bel (bel ((Below.refl w.heap.size w).alloc (Nat.le_refl _) _) hb1 (by simp)) (Below.refl _ _) (by have := hb1.size; simp at this; omega))).tab).mono ?_); rintro e wI0 ⟨rfl, hbI0⟩; obtain ⟨hclI0, hfrI0⟩ := bcell hbI0; have hszI0 : w.heap.size < wI0.heap.size := by (have := hbI0.size; have := hb1.size; simp at *; omega)))
  go_ret2
  rw [← HL.out]
  exact ⟨rfl, bel (bel ((Below.refl w.heap.size w).alloc (Nat.le_refl _) _) hb1 (by simp)) hbI0 (bel ((Below.refl w.heap.size w).alloc (Nat.le_refl _) _) hb1 (by simp)).size⟩
set_option maxHeartbeats 1000000 in
theorem line6_no (side n : Int) (h : right ⟨6, side, n, 0, 0, 0, []⟩ = false) (w : World) : Calls Tryd.prog 15 #[.agg #[.int .i64 6, .int .i64 side, .int .i64 n, .int .i64 0, .int .i64 0, .int .u64 0, .int .u64 0, .string ⟨#[]⟩]] w fun e w' => e = .returned (.tuple #[.string ⟨#[]⟩, .int .i64 1]) ∧ Below w.heap.size w w' := by
  have H := Lib.hid h
  clear h
  go_enter Tryd.func15, Tryd.ntmps15
  go_wp2_with (go_at_call 43; refine (right6 side n _).mono ?_; rintro e w1 ⟨rfl, hb1⟩; rw [H.out])
  go_ret2
  exact ⟨rfl, bel ((Below.refl _ _).alloc (Nat.le_refl _) _) hb1 (by simp)⟩
set_option maxHeartbeats 2000000 in
theorem line6_yes (side n : Int) (h : right ⟨6, side, n, 0, 0, 0, []⟩ = true) (w : World) (hv : Vars w) : Calls Tryd.prog 15 #[.agg #[.int .i64 6, .int .i64 side, .int .i64 n, .int .i64 0, .int .i64 0, .int .u64 0, .int .u64 0, .string ⟨#[]⟩]] w fun e w' => e = .returned (.tuple #[.string (lineB ⟨6, side, n, 0, 0, 0, []⟩), .int .i64 0]) ∧ Below w.heap.size w w' := by
  have H := Lib.hid h
  have HV := Lib.hid (fun w' (hb : Below w.heap.size w w') => hv.below hb)
  have hr : (0 ≤ side ∧ side ≤ 1) ∧ 0 ≤ n ∧ n ≤ 4 := by simp [right] at h; omega
  have HL := Lib.hid (show (((⟨#[102, 111, 114, 101, 105, 103, 110]⟩ : ByteArray) ++ (⟨#[32]⟩ ++ I side)) ++ (⟨#[32]⟩ ++ I n)) = lineB ⟨6, side, n, 0, 0, 0, []⟩ from ba_ext (by simp [lineB, lineL, lineW, joinSp, wordL, I_data]))
  have z0 := Name.I_size (z := side) (by omega) (by omega)
  have z1 := Name.I_size (z := n) (by omega) (by omega)
  have p0 := fun w => run_string_add_sum (P := Tryd.prog) w ⟨#[32]⟩ (I side) (by rw [show (⟨#[32]⟩ : ByteArray).size = 1 from rfl]; omega)
  have r0 := fun w => run_string_add_sum (P := Tryd.prog) w ((⟨#[102, 111, 114, 101, 105, 103, 110]⟩ : ByteArray)) (⟨#[32]⟩ ++ I side) (by simp only [ByteArray.size_append, show (⟨#[32]⟩ : ByteArray).size = 1 from rfl, show (⟨#[102, 111, 114, 101, 105, 103, 110]⟩ : ByteArray).size = 7 from rfl]; omega)
  have p1 := fun w => run_string_add_sum (P := Tryd.prog) w ⟨#[32]⟩ (I n) (by rw [show (⟨#[32]⟩ : ByteArray).size = 1 from rfl]; omega)
  have r1 := fun w => run_string_add_sum (P := Tryd.prog) w (((⟨#[102, 111, 114, 101, 105, 103, 110]⟩ : ByteArray) ++ (⟨#[32]⟩ ++ I side))) (⟨#[32]⟩ ++ I n) (by simp only [ByteArray.size_append, show (⟨#[32]⟩ : ByteArray).size = 1 from rfl, show (⟨#[102, 111, 114, 101, 105, 103, 110]⟩ : ByteArray).size = 7 from rfl]; omega)
  have q1 := bits31
  have q2 := bits32
  have q4 := bits34
  clear h hv z0 z1
  go_enter Tryd.func15, Tryd.ntmps15
  go_wp2_with (first | (go_at_call 43; refine (right6 side n _).mono ?_; rintro e w1 ⟨rfl, hb1⟩; rw [H.out]; obtain ⟨hcl, hfr⟩ := bcell hb1; have hsz : w.heap.size < w1.heap.size := by (have := hb1.size; simp at this; omega)) | (go_at_call 30; refine (has6 _).mono ?_; rintro e w' ⟨rfl, rfl⟩) | (go_at_call 29; refine (word6 _).mono ?_; rintro e w' ⟨rfl, rfl⟩) | (go_at_call 18; (with_reducible refine (Name.intI side (by omega) (by omega) _ (HV.out _ (bel (bel ((Below.refl w.heap.size w).alloc (Nat.le_refl _) _) hb1 (by simp)) (Below.refl _ _) (by have := hb1.size; simp at this; omega))).tab).mono ?_); rintro e wI0 ⟨rfl, hbI0⟩; obtain ⟨hclI0, hfrI0⟩ := bcell hbI0; have hszI0 : w.heap.size < wI0.heap.size := by (have := hbI0.size; have := hb1.size; simp at *; omega)) | (go_at_call 18; (with_reducible refine (Name.intI n (by omega) (by omega) _ (HV.out _ (bel (bel ((Below.refl w.heap.size w).alloc (Nat.le_refl _) _) hb1 (by simp)) hbI0 (by have := hb1.size; simp at this; omega))).tab).mono ?_); rintro e wI1 ⟨rfl, hbI1⟩; obtain ⟨hclI1, hfrI1⟩ := bcell hbI1; have hszI1 : w.heap.size < wI1.heap.size := by (have := hbI1.size; have := hb1.size; simp at *; omega)))
  go_ret2
  rw [← HL.out]
  exact ⟨rfl, bel (bel (bel ((Below.refl w.heap.size w).alloc (Nat.le_refl _) _) hb1 (by simp)) hbI0 (bel ((Below.refl w.heap.size w).alloc (Nat.le_refl _) _) hb1 (by simp)).size) hbI1 (bel (bel ((Below.refl w.heap.size w).alloc (Nat.le_refl _) _) hb1 (by simp)) hbI0 (bel ((Below.refl w.heap.size w).alloc (Nat.le_refl _) _) hb1 (by simp)).size).size⟩
set_option maxHeartbeats 1000000 in
theorem line7_no (h : right ⟨7, 0, 0, 0, 0, 0, []⟩ = false) (w : World) : Calls Tryd.prog 15 #[.agg #[.int .i64 7, .int .i64 0, .int .i64 0, .int .i64 0, .int .i64 0, .int .u64 0, .int .u64 0, .string ⟨#[]⟩]] w fun e w' => e = .returned (.tuple #[.string ⟨#[]⟩, .int .i64 1]) ∧ Below w.heap.size w w' := by
  have H := Lib.hid h
  clear h
  go_enter Tryd.func15, Tryd.ntmps15
  go_wp2_with (go_at_call 43; refine (right7 _).mono ?_; rintro e w1 ⟨rfl, hb1⟩; rw [H.out])
  go_ret2
  exact ⟨rfl, bel ((Below.refl _ _).alloc (Nat.le_refl _) _) hb1 (by simp)⟩
set_option maxHeartbeats 2000000 in
theorem line7_yes (h : right ⟨7, 0, 0, 0, 0, 0, []⟩ = true) (w : World) (hv : Vars w) : Calls Tryd.prog 15 #[.agg #[.int .i64 7, .int .i64 0, .int .i64 0, .int .i64 0, .int .i64 0, .int .u64 0, .int .u64 0, .string ⟨#[]⟩]] w fun e w' => e = .returned (.tuple #[.string (lineB ⟨7, 0, 0, 0, 0, 0, []⟩), .int .i64 0]) ∧ Below w.heap.size w w' := by
  have H := Lib.hid h
  have HV := Lib.hid (fun w' (hb : Below w.heap.size w w') => hv.below hb)
  have hr : True := by trivial
  have HL := Lib.hid (show (⟨#[115, 116, 111, 112]⟩ : ByteArray) = lineB ⟨7, 0, 0, 0, 0, 0, []⟩ from ba_ext (by simp [lineB, lineL, lineW, joinSp, wordL, I_data]))
  have q1 := bits01
  have q2 := bits02
  have q4 := bits04
  clear h hv
  go_enter Tryd.func15, Tryd.ntmps15
  go_wp2_with (first | (go_at_call 43; refine (right7 _).mono ?_; rintro e w1 ⟨rfl, hb1⟩; rw [H.out]; obtain ⟨hcl, hfr⟩ := bcell hb1; have hsz : w.heap.size < w1.heap.size := by (have := hb1.size; simp at this; omega)) | (go_at_call 30; refine (has7 _).mono ?_; rintro e w' ⟨rfl, rfl⟩) | (go_at_call 29; refine (word7 _).mono ?_; rintro e w' ⟨rfl, rfl⟩))
  go_ret2
  rw [← HL.out]
  exact ⟨rfl, bel ((Below.refl w.heap.size w).alloc (Nat.le_refl _) _) hb1 (by simp)⟩
set_option maxHeartbeats 1000000 in
theorem line8_no (h : right ⟨8, 0, 0, 0, 0, 0, []⟩ = false) (w : World) : Calls Tryd.prog 15 #[.agg #[.int .i64 8, .int .i64 0, .int .i64 0, .int .i64 0, .int .i64 0, .int .u64 0, .int .u64 0, .string ⟨#[]⟩]] w fun e w' => e = .returned (.tuple #[.string ⟨#[]⟩, .int .i64 1]) ∧ Below w.heap.size w w' := by
  have H := Lib.hid h
  clear h
  go_enter Tryd.func15, Tryd.ntmps15
  go_wp2_with (go_at_call 43; refine (right8 _).mono ?_; rintro e w1 ⟨rfl, hb1⟩; rw [H.out])
  go_ret2
  exact ⟨rfl, bel ((Below.refl _ _).alloc (Nat.le_refl _) _) hb1 (by simp)⟩
set_option maxHeartbeats 2000000 in
theorem line8_yes (h : right ⟨8, 0, 0, 0, 0, 0, []⟩ = true) (w : World) (hv : Vars w) : Calls Tryd.prog 15 #[.agg #[.int .i64 8, .int .i64 0, .int .i64 0, .int .i64 0, .int .i64 0, .int .u64 0, .int .u64 0, .string ⟨#[]⟩]] w fun e w' => e = .returned (.tuple #[.string (lineB ⟨8, 0, 0, 0, 0, 0, []⟩), .int .i64 0]) ∧ Below w.heap.size w w' := by
  have H := Lib.hid h
  have HV := Lib.hid (fun w' (hb : Below w.heap.size w w') => hv.below hb)
  have hr : True := by trivial
  have HL := Lib.hid (show (⟨#[115, 116, 97, 114, 116]⟩ : ByteArray) = lineB ⟨8, 0, 0, 0, 0, 0, []⟩ from ba_ext (by simp [lineB, lineL, lineW, joinSp, wordL, I_data]))
  have q1 := bits01
  have q2 := bits02
  have q4 := bits04
  clear h hv
  go_enter Tryd.func15, Tryd.ntmps15
  go_wp2_with (first | (go_at_call 43; refine (right8 _).mono ?_; rintro e w1 ⟨rfl, hb1⟩; rw [H.out]; obtain ⟨hcl, hfr⟩ := bcell hb1; have hsz : w.heap.size < w1.heap.size := by (have := hb1.size; simp at this; omega)) | (go_at_call 30; refine (has8 _).mono ?_; rintro e w' ⟨rfl, rfl⟩) | (go_at_call 29; refine (word8 _).mono ?_; rintro e w' ⟨rfl, rfl⟩))
  go_ret2
  rw [← HL.out]
  exact ⟨rfl, bel ((Below.refl w.heap.size w).alloc (Nat.le_refl _) _) hb1 (by simp)⟩
end Go.Proofs.YtoahfegeeimomaaDoor.Line
