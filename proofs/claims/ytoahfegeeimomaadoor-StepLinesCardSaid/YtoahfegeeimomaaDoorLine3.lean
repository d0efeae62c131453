/- step.Line of a send. Conditions: as stated in each theorem. -/
import Derived.Test.YtoahfegeeimomaaDoorLine
import Derived.Test.YtoahfegeeimomaaDoorUnhex
import Derived.Deep.RegionHeld3
set_option linter.unusedVariables false
set_option linter.unusedSimpArgs false
namespace Go.Proofs.YtoahfegeeimomaaDoor.Line3
open Go.RowKit Base RowD Number TextP LinesPlain Num Kinds Right Hex Line
open Go.Proofs.YtoahfegeeimomaaDoor.Name (I D)
set_option maxRecDepth 100000

def X (d : ByteArray) : ByteArray := ⟨(hexL d.data.toList).toArray⟩
theorem X_data (d : ByteArray) : (X d).data.toList = hexL d.data.toList := rfl
theorem hexX (d : ByteArray) (h : d.size ≤ 1000) (w : World) : Calls Tryd.prog 45 #[.string d] w fun e w' => e = .returned (.string (X d)) ∧ Below w.heap.size w w' := by
  by_cases h0 : 0 < d.size
  · exact hex d h0 h w
  · obtain rfl := Loops2.empty_of (s := d) (by omega)
    exact hex_empty w
theorem X_size (d : ByteArray) (h : d.size ≤ 64) : (X d).size ≤ 128 := by
  have h1 : (X d).size = (hexL d.data.toList).length := by simp [X, ByteArray.size]
  have h2 : d.data.toList.length = d.size := by simp
  rw [h1]
  unfold hexL
  split
  · simp
  · rw [hexP_len]; omega
theorem line3_no (c f : Int) (t : Nat) (d : ByteArray) (h : right ⟨3, 0, 0, c, f, t, d.data.toList⟩ = false) (w : World) : Calls Tryd.prog 15 #[.agg #[.int .i64 3, .int .i64 0, .int .i64 0, .int .i64 c, .int .i64 f, .int .u64 0, .int .u64 t, .string d]] w fun e w' => e = .returned (.tuple #[.string ⟨#[]⟩, .int .i64 1]) ∧ Below w.heap.size w w' := by
  rw [← rightP_is c f t d] at h
  have H := Lib.hid h
  clear h
  go_enter Tryd.func15, Tryd.ntmps15
  go_wp2_with (go_at_call 43; refine (right3 _ _ _ _ _).mono ?_; rintro e w1 ⟨rfl, hb1⟩; rw [H.out])
  go_ret2
  exact ⟨rfl, bel ((Below.refl _ _).alloc (Nat.le_refl _) _) hb1 (by simp)⟩
theorem keep4 {w w0 w1 : World} {a b c d : Value} (h : w0.cell? ⟨w.heap.size, 3, none⟩ = some a ∧ w0.cell? ⟨w.heap.size, 4, none⟩ = some b ∧ w0.cell? ⟨w.heap.size, 6, none⟩ = some c ∧ w0.cell? ⟨w.heap.size, 7, none⟩ = some d ∧ Below w.heap.size w w0 ∧ w.heap.size < w0.heap.size) (hb : Below w0.heap.size w0 w1) :
    w1.cell? ⟨w.heap.size, 3, none⟩ = some a ∧ w1.cell? ⟨w.heap.size, 4, none⟩ = some b ∧ w1.cell? ⟨w.heap.size, 6, none⟩ = some c ∧ w1.cell? ⟨w.heap.size, 7, none⟩ = some d ∧ Below w.heap.size w w1 ∧ w.heap.size < w1.heap.size :=
  ⟨(hb.cell (p := ⟨w.heap.size, 3, none⟩) h.2.2.2.2.2).trans h.1, (hb.cell (p := ⟨w.heap.size, 4, none⟩) h.2.2.2.2.2).trans h.2.1, (hb.cell (p := ⟨w.heap.size, 6, none⟩) h.2.2.2.2.2).trans h.2.2.1, (hb.cell (p := ⟨w.heap.size, 7, none⟩) h.2.2.2.2.2).trans h.2.2.2.1, Base.bel h.2.2.2.2.1 hb h.2.2.2.2.1.size, by have := hb.size; have := h.2.2.2.2.2; omega⟩
set_option maxHeartbeats 4000000 in
theorem line3_yes (c f : Int) (t : Nat) (ht : t < 18446744073709551616) (d : ByteArray) (h : right ⟨3, 0, 0, c, f, t, d.data.toList⟩ = true) (w : World) (hv : Vars w) : Calls Tryd.prog 15 #[.agg #[.int .i64 3, .int .i64 0, .int .i64 0, .int .i64 c, .int .i64 f, .int .u64 0, .int .u64 t, .string d]] w fun e w' => e = .returned (.tuple #[.string (lineB ⟨3, 0, 0, c, f, t, d.data.toList⟩), .int .i64 0]) ∧ Below w.heap.size w w' := by
  have hr : (0 ≤ c ∧ c ≤ 3) ∧ (0 ≤ f ∧ f ≤ 1) ∧ d.size ≤ 64 := by simp [right] at h; omega
  rw [← rightP_is c f t d] at h
  have H := Lib.hid h
  have HV := Lib.hid (fun w' (hb : Below w.heap.size w w') => (hv.below hb).tab)
  have z0 := Name.I_size (z := c) (by omega) (by omega)
  have z1 := Name.I_size (z := f) (by omega) (by omega)
  have z2 := Name.D_size ht
  have z3 := X_size d hr.2.2
  have e1 : (⟨#[32]⟩ : ByteArray).size = 1 := rfl
  have e4 : (⟨#[115, 101, 110, 100]⟩ : ByteArray).size = 4 := rfl
  have HL := Lib.hid (show ((⟨#[115, 101, 110, 100]⟩ : ByteArray) ++ (⟨#[32]⟩ ++ I c ++ ⟨#[32]⟩ ++ I f ++ ⟨#[32]⟩ ++ D t ++ ⟨#[32]⟩ ++ X d)) = lineB ⟨3, 0, 0, c, f, t, d.data.toList⟩ from ba_ext (by simp [lineB, lineL, lineW, joinSp, wordL, I_data, D_data, X_data]))
  have p0 := fun w => run_string_add_sum (P := Tryd.prog) w ⟨#[32]⟩ (I c) (by omega)
  have p1 := fun w => run_string_add_sum (P := Tryd.prog) w (⟨#[32]⟩ ++ I c) ⟨#[32]⟩ (by simp only [ByteArray.size_append]; omega)
  have p2 := fun w => run_string_add_sum (P := Tryd.prog) w (⟨#[32]⟩ ++ I c ++ ⟨#[32]⟩) (I f) (by simp only [ByteArray.size_append]; omega)
  have p3 := fun w => run_string_add_sum (P := Tryd.prog) w (⟨#[32]⟩ ++ I c ++ ⟨#[32]⟩ ++ I f) ⟨#[32]⟩ (by simp only [ByteArray.size_append]; omega)
  have p4 := fun w => run_string_add_sum (P := Tryd.prog) w (⟨#[32]⟩ ++ I c ++ ⟨#[32]⟩ ++ I f ++ ⟨#[32]⟩) (D t) (by simp only [ByteArray.size_append]; omega)
  have p5 := fun w => run_string_add_sum (P := Tryd.prog) w (⟨#[32]⟩ ++ I c ++ ⟨#[32]⟩ ++ I f ++ ⟨#[32]⟩ ++ D t) ⟨#[32]⟩ (by simp only [ByteArray.size_append]; omega)
  have p6 := fun w => run_string_add_sum (P := Tryd.prog) w (⟨#[32]⟩ ++ I c ++ ⟨#[32]⟩ ++ I f ++ ⟨#[32]⟩ ++ D t ++ ⟨#[32]⟩) (X d) (by simp only [ByteArray.size_append]; omega)
  have p7 := fun w => run_string_add_sum (P := Tryd.prog) w ⟨#[115, 101, 110, 100]⟩ (⟨#[32]⟩ ++ I c ++ ⟨#[32]⟩ ++ I f ++ ⟨#[32]⟩ ++ D t ++ ⟨#[32]⟩ ++ X d) (by simp only [ByteArray.size_append]; omega)
  have q1 := bits41
  have q2 := bits42
  have q4 := bits44
  have RE := Lib.hid (Row.new w #[.int .i64 3, .int .i64 0, .int .i64 0, .int .i64 c, .int .i64 f, .int .u64 0, .int .u64 t, .string d] 40)
  clear h hv z0 z1 z2 z3 e1 e4
  go_enter Tryd.func15, Tryd.ntmps15
  go_wp2_with (first | (go_at_call 43; refine (right3 _ _ _ _ _).mono ?_; rintro e w1 ⟨rfl, hb1⟩; rw [H.out]; have RE1 := Lib.hid (RE.out.below hb1); have c0 := RE1.out.cell 0 (v := .int .i64 3) rfl; have HB1 := Lib.hid (bel ((Below.refl w.heap.size w).alloc (Nat.le_refl _) _) hb1 (by simp)); clear hb1) | (go_at_call 30; refine (has3 _).mono ?_; rintro e w1 ⟨rfl, rfl⟩) | (go_at_call 29; refine (word3 _).mono ?_; rintro e w1 ⟨rfl, rfl⟩))
  have hstart : w1.cell? ⟨w.heap.size, 3, none⟩ = some (.int .i64 c) ∧ w1.cell? ⟨w.heap.size, 4, none⟩ = some (.int .i64 f) ∧ w1.cell? ⟨w.heap.size, 6, none⟩ = some (.int .u64 (t : Int)) ∧ w1.cell? ⟨w.heap.size, 7, none⟩ = some (.string d) ∧ Below w.heap.size w w1 ∧ w.heap.size < w1.heap.size :=
    ⟨RE1.out.cell 3 rfl, RE1.out.cell 4 rfl, RE1.out.cell 6 rfl, RE1.out.cell 7 rfl, HB1.out, RE1.out.lt⟩
  have hstart' : w1.drew.cell? ⟨w.heap.size, 3, none⟩ = some (.int .i64 c) ∧ w1.drew.cell? ⟨w.heap.size, 4, none⟩ = some (.int .i64 f) ∧ w1.drew.cell? ⟨w.heap.size, 6, none⟩ = some (.int .u64 (t : Int)) ∧ w1.drew.cell? ⟨w.heap.size, 7, none⟩ = some (.string d) ∧ Below w.heap.size w w1.drew ∧ w.heap.size < w1.drew.heap.size :=
    ⟨RE1.out.drew.cell 3 rfl, RE1.out.drew.cell 4 rfl, RE1.out.drew.cell 6 rfl, RE1.out.drew.cell 7 rfl, belowDrew HB1.out, RE1.out.drew.lt⟩
  have b1 : -9223372036854775808 ≤ c := by omega
  have b2 : c ≤ 9223372036854775807 := by omega
  have b3 : -9223372036854775808 ≤ f := by omega
  have b4 : f ≤ 9223372036854775807 := by omega
  have b5 : d.size ≤ 1000 := by omega
  clear c0
  go_region_held3 (fun w' => w'.cell? ⟨w.heap.size, 3, none⟩ = some (.int .i64 c) ∧ w'.cell? ⟨w.heap.size, 4, none⟩ = some (.int .i64 f) ∧ w'.cell? ⟨w.heap.size, 6, none⟩ = some (.int .u64 (t : Int)) ∧ w'.cell? ⟨w.heap.size, 7, none⟩ = some (.string d) ∧ Below w.heap.size w w' ∧ w.heap.size < w'.heap.size)
    (first | exact hstart' | exact hstart | exact keep4 (by assumption) hb)
    (first | (go_at_call 18; ((with_reducible refine (Name.intI c b1 b2 _ (HV.out _ (by assumption : _ ∧ _ ∧ _ ∧ _ ∧ _ ∧ _).2.2.2.2.1)).mono ?_); rintro e wx ⟨rfl, hb⟩)) | (go_at_call 18; ((with_reducible refine (Name.intI f b3 b4 _ (HV.out _ (by assumption : _ ∧ _ ∧ _ ∧ _ ∧ _ ∧ _).2.2.2.2.1)).mono ?_); rintro e wx ⟨rfl, hb⟩)) | (go_at_call 44; ((with_reducible refine (Name.uintD t ht _ (HV.out _ (by assumption : _ ∧ _ ∧ _ ∧ _ ∧ _ ∧ _).2.2.2.2.1)).mono ?_); rintro e wx ⟨rfl, hb⟩)) | (go_at_call 45; ((with_reducible refine (hexX d b5 _).mono ?_); rintro e wx ⟨rfl, hb⟩)))
  all_goals go_wp2
  all_goals go_ret2
  all_goals rw [← HL.out]
  all_goals exact ⟨rfl, (by assumption : _ ∧ _ ∧ _ ∧ _ ∧ _ ∧ _).2.2.2.2.1⟩
end Go.Proofs.YtoahfegeeimomaaDoor.Line3
