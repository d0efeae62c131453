/- The law's own two lines of known text. Conditions: as stated in each theorem. -/
import Derived.Test.YtoahfegeeimomaaDoorParse
set_option linter.unusedVariables false
set_option linter.unusedSimpArgs false
namespace Go.Proofs.YtoahfegeeimomaaDoor.Awake
open Go.Lib (itoa decDigits)
open Go.RowKit Base RowD Number TextP LinesPlain Num LoopsPlain Kinds Right Hex Line Line3 RefWords Split Parse
set_option maxRecDepth 100000
theorem dig (n : Nat) (h : n < 10) : itoa (n : Int) = [UInt8.ofNat (48 + n)] := by rw [itoa_nat]; exact Lib.decDigits_one h
theorem dec (n : Nat) (h : n < 10) : decDigits n = [UInt8.ofNat (48 + n)] := Lib.decDigits_one h
theorem text6 : lineB ⟨6, 1, 2, 0, 0, 0, []⟩ = ⟨#[102, 111, 114, 101, 105, 103, 110, 32, 49, 32, 50]⟩ := by
  apply ba_ext
  show lineL _ = _
  show joinSp [wordL 6, itoa 1, itoa 2] = _
  rw [show itoa (1 : Int) = [49] from dig 1 (by omega), show itoa (2 : Int) = [50] from dig 2 (by omega)]
  rfl
theorem text3 : lineB ⟨3, 0, 0, 0, 1, 9, [65]⟩ = ⟨#[115, 101, 110, 100, 32, 48, 32, 49, 32, 57, 32, 52, 49]⟩ := by
  apply ba_ext
  show lineL _ = _
  show joinSp [wordL 3, itoa 0, itoa 1, decDigits 9, hexL [65]] = _
  rw [show itoa (1 : Int) = [49] from dig 1 (by omega), show itoa (0 : Int) = [48] from dig 0 (by omega), show decDigits 9 = [57] from dec 9 (by omega)]
  rfl
theorem a6 (w : World) (hv : Vars w) : Calls Tryd.prog 15 #[.agg #[.int .i64 6, .int .i64 1, .int .i64 2, .int .i64 0, .int .i64 0, .int .u64 0, .int .u64 0, .string ⟨#[]⟩]] w fun e w' => e = .returned (.tuple #[.string ⟨#[102, 111, 114, 101, 105, 103, 110, 32, 49, 32, 50]⟩, .int .i64 0]) ∧ Below w.heap.size w w' := by
  rw [← text6]; exact L6_yes 1 2 rfl w hv
theorem a3 (w : World) (hv : Vars w) : Calls Tryd.prog 15 #[.agg #[.int .i64 3, .int .i64 0, .int .i64 0, .int .i64 0, .int .i64 1, .int .u64 0, .int .u64 9, .string ⟨#[65]⟩]] w fun e w' => e = .returned (.tuple #[.string ⟨#[115, 101, 110, 100, 32, 48, 32, 49, 32, 57, 32, 52, 49]⟩, .int .i64 0]) ∧ Below w.heap.size w w' := by
  rw [← text3]; exact L3_yes 0 1 9 (by omega) [65] rfl w hv
set_option maxHeartbeats 1000000 in
theorem awake (w : World) (hv : Vars w) : Calls Tryd.prog 12 #[] w fun e w' => e = .returned (.bool true) ∧ Below w.heap.size w w' := by
  have HV := Lib.hid (fun w' (hb : Below w.heap.size w w') => hv.below hb)
  have H0 := Lib.hid (Below.refl w.heap.size w)
  clear hv
  go_enter Tryd.func12, Tryd.ntmps12
  go_wp2_with (first | (go_at_call 15; ((with_reducible refine (a6 _ (HV.out _ H0.out)).mono ?_); rintro e w1 ⟨rfl, hb⟩; have H1 := Lib.hid hb; clear hb)) | (go_at_call 15; ((with_reducible refine (a3 _ (HV.out _ H1.out)).mono ?_); rintro e w2 ⟨rfl, hb⟩; have H2 := Lib.hid (bel H1.out hb H1.out.size); clear hb)))
  go_ret
  exact ⟨rfl, H2.out⟩
end Go.Proofs.YtoahfegeeimomaaDoor.Awake
