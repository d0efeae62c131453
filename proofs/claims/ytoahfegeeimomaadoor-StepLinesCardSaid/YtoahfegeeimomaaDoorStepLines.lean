/- muleteerlaw15.StepLines walked: it answers true for every line. Conditions: as stated in each theorem. -/
import Derived.Test.YtoahfegeeimomaaDoorAwake
import Derived.Test.YtoahfegeeimomaaDoorRefParse
set_option linter.unusedVariables false
set_option linter.unusedSimpArgs false
namespace Go.Proofs.YtoahfegeeimomaaDoor.StepLines
open Go.Lib (itoa decDigits)
open Go.RowKit Base RowD Number TextP LinesPlain Num LoopsPlain Kinds Right Hex Line Line3 RefWords Split Parse RefParse Awake
set_option maxRecDepth 100000
theorem right_st (y : St) (l : List UInt8) (hy : progSt (splitSp l) = y) (hr : right y = true) (w : World) (hv : Vars w) :
    Calls Tryd.prog 15 #[.agg (stepV y)] w fun e w' => e = .returned (.tuple #[.string (lineB y), .int .i64 0]) ∧ Below w.heap.size w w' := by
  subst hy
  generalize splitSp l = ws at *
  unfold progSt at hr ⊢
  generalize kindUp (ws.getD 0 []) 8 = k at *
  match k, hr with
  | 0, hr => exact Bool.noConfusion hr
  | 1, hr => exact L1_yes _ hr w hv
  | 2, hr => exact L2_yes _ hr w hv
  | 3, hr =>
    by_cases h5 : ws.length = 5
    · simp only [if_pos h5] at hr ⊢
      exact L3_yes _ _ _ (puV_lt _) _ hr w hv
    · simp only [if_neg h5] at hr ⊢
      exact L3_yes 0 0 0 (by omega) [] hr w hv
  | 4, hr => exact L4_yes _ hr w hv
  | 5, hr => exact L5_yes _ hr w hv
  | 6, hr => exact L6_yes _ _ hr w hv
  | 7, hr => exact L7_yes hr w hv
  | 8, hr => exact L8_yes hr w hv
  | k + 9, hr => exact Bool.noConfusion hr
theorem eqSame (y : St) (w : World) : (binOp .eql 40 (.agg (stepV y)) (.agg (stepV y))).run Tryd.prog w = .ok (.bool true) w := by
  obtain ⟨k, side, n, c, f, t, d⟩ := y
  unfold stepV
  go_simp
theorem eqZ40 (w : World) : (binOp .eql 40 (.agg (stepV stZ)) (.agg (stepV stZ))).run Tryd.prog w = .ok (.bool true) w := by kernel_rfl
theorem line_is (y : St) (s : ByteArray) (h : lineL y = s.data.toList) : lineB y = s := ba_ext (by show lineL y = _; exact h)
theorem row_put {w : World} (x : St) : Row ((w.alloc (.cells (stepV stZ) 40)).setRow w.heap.size (stepV x)) w.heap.size (stepV x) 40 := (Row.new w (stepV stZ) 40).row
theorem below_put {B : Nat} {w0 w : World} (h : Below B w0 w) (hB : B ≤ w.heap.size) (x : St) : Below B w0 ((w.alloc (.cells (stepV stZ) 40)).setRow w.heap.size (stepV x)) := belowRow (h.alloc hB _) hB _
set_option maxHeartbeats 2000000 in
theorem stepLines (s : ByteArray) (w : World) (hsh : w.ShapedOpen Tryd.prog) (hv : Vars w) : Calls Tryd.prog 4 #[.string s] w fun e w' => e = .returned (.bool true) ∧ Below w.heap.size w w' := by
  have HV := Lib.hid (fun w' (hb : Below w.heap.size w w') => hv.below hb)
  by_cases hm : s.size ≤ 300
  · have d0 : ¬ (300 : Int) < (s.size : Int) := by omega
    have PP := Lib.hid (parse s hm w hsh hv)
    have RRP := Lib.hid (fun w3 => refParse s hm w3)
    have hlaw := law s.data.toList
    cases hr : refSt (splitSp s.data.toList) with
    | none =>
      have hp : parseT s.data.toList = .tuple #[.agg (stepV stZ), .int .i64 3] := by
        unfold parseT
        rw [if_neg]
        intro h
        unfold okP at h
        rw [Bool.and_eq_true, decide_eq_true_eq] at h
        exact hlaw.2 hr h
      rw [hp] at PP
      have RQ := Lib.hid (show ∀ w3, Calls Tryd.prog 14 #[.string s] w3 fun e w' => (∃ y, e = .returned (.tuple #[.agg (stepV y), .bool false])) ∧ Below w3.heap.size w3 w' from fun w3 => (RRP.out w3).mono fun e w' hh => by
        refine ⟨?_, hh.2⟩
        rcases hh.1 with ⟨y, hy, _⟩ | ⟨_, h⟩
        · rw [hr] at hy; cases hy
        · exact h)
      clear hlaw hr hp RRP hsh hv
      go_enter Tryd.func4, Tryd.ntmps4
      go_upto_region 4 with (first | (go_at_call 13; refine PP.out.mono ?_; rintro e w1 ⟨rfl, hb1⟩; have H1 := Lib.hid hb1; clear hb1) | (refine wpList_store_rowTo rfl 40 (.tmp 3) (.tmp 16) rfl rfl w1.heap.size (stepV stZ) rfl rfl 40 (stepV stZ) (Row.new w1 (stepV stZ) 40).is (size40 _) (old40 _ _) (one40 _) ?_))
      have RA := Lib.hid (show Row (((w1.alloc (.cells #[.int .i64 0, .int .i64 0, .int .i64 0, .int .i64 0, .int .i64 0, .int .u64 0, .int .u64 0, .string ⟨#[]⟩] 40)).setRow w1.heap.size (stepV stZ))) w1.heap.size (stepV stZ) 40 from row_put (w := w1) stZ)
      have BA := Lib.hid (show Below w.heap.size w (((w1.alloc (.cells #[.int .i64 0, .int .i64 0, .int .i64 0, .int .i64 0, .int .i64 0, .int .u64 0, .int .u64 0, .string ⟨#[]⟩] 40)).setRow w1.heap.size (stepV stZ))) from below_put H1.out H1.out.size stZ)
      have XA := Lib.hid H1.out.size
      clear H1 PP
      generalize (((w1.alloc (.cells #[.int .i64 0, .int .i64 0, .int .i64 0, .int .i64 0, .int .i64 0, .int .u64 0, .int .u64 0, .string ⟨#[]⟩] 40)).setRow w1.heap.size (stepV stZ))) = wA at *
      generalize w1.heap.size = X at *
      go_upto_region 5 with (first | (go_at_call 14; refine (RQ.out _).mono ?_; rintro e w2 ⟨⟨y, rfl⟩, hb2⟩; have RB := Lib.hid (RA.out.below hb2); have BB := Lib.hid (bel BA.out hb2 BA.out.size); clear hb2) | (refine wpList_store_rowTo rfl 40 (.tmp 5) (.tmp 21) rfl rfl w2.heap.size (stepV y) rfl rfl 40 (stepV stZ) (Row.new w2 (stepV stZ) 40).is (size40 _) (old40 _ _) (one40 _) ?_))
      have RC := Lib.hid (show Row (((w2.alloc (.cells #[.int .i64 0, .int .i64 0, .int .i64 0, .int .i64 0, .int .i64 0, .int .u64 0, .int .u64 0, .string ⟨#[]⟩] 40)).setRow w2.heap.size (stepV y))) X (stepV stZ) 40 from (RB.out.alloc _).rowOther (by have := RB.out.lt; omega))
      have BC := Lib.hid (show Below w.heap.size w (((w2.alloc (.cells #[.int .i64 0, .int .i64 0, .int .i64 0, .int .i64 0, .int .i64 0, .int .u64 0, .int .u64 0, .string ⟨#[]⟩] 40)).setRow w2.heap.size (stepV y))) from below_put BB.out BB.out.size y)
      clear RA BA RB BB
      generalize (((w2.alloc (.cells #[.int .i64 0, .int .i64 0, .int .i64 0, .int .i64 0, .int .i64 0, .int .u64 0, .int .u64 0, .string ⟨#[]⟩] 40)).setRow w2.heap.size (stepV y))) = wC at *
      generalize w2.heap.size = Y at *
      go_wp2_with (first | (go_at_call 12; refine (Awake.awake _ (HV.out _ BC.out)).mono ?_; rintro e w3 ⟨rfl, hb3⟩; have RD := Lib.hid (RC.out.below hb3); have BD := Lib.hid (bel BC.out hb3 BC.out.size); have cX0 := RD.out.cell 0 (v := .int .i64 0) rfl; have cX1 := RD.out.cell 1 (v := .int .i64 0) rfl; have cX2 := RD.out.cell 2 (v := .int .i64 0) rfl; have cX3 := RD.out.cell 3 (v := .int .i64 0) rfl; have cX4 := RD.out.cell 4 (v := .int .i64 0) rfl; have cX5 := RD.out.cell 5 (v := .int .u64 0) rfl; have cX6 := RD.out.cell 6 (v := .int .u64 0) rfl; have cX7 := RD.out.cell 7 (v := .string ⟨#[]⟩) rfl; clear hb3))
      go_ret
      exact ⟨rfl, BD.out⟩
    | some y =>
      obtain ⟨hy, hri, hln⟩ := hlaw.1 y hr
      have hp : parseT s.data.toList = .tuple #[.agg (stepV y), .int .i64 0] := parseT_yes hy hri hln
      rw [hp] at PP
      have RQ := Lib.hid (show ∀ w3, Calls Tryd.prog 14 #[.string s] w3 fun e w' => e = .returned (.tuple #[.agg (stepV y), .bool true]) ∧ Below w3.heap.size w3 w' from fun w3 => (RRP.out w3).mono fun e w' hh => by
        refine ⟨?_, hh.2⟩
        rcases hh.1 with ⟨y', hy', h⟩ | ⟨h, _⟩
        · rw [hr] at hy'; cases hy'; exact h
        · rw [hr] at h; cases h)
      have LN := Lib.hid (fun w3 (hv3 : Vars w3) => right_st y s.data.toList hy hri w3 hv3)
      rw [line_is y s hln] at LN
      clear hlaw hr hp RRP hsh hv hy hri hln
      go_enter Tryd.func4, Tryd.ntmps4
      go_upto_region 4 with (first | (go_at_call 13; refine PP.out.mono ?_; rintro e w1 ⟨rfl, hb1⟩; have H1 := Lib.hid hb1; clear hb1) | (refine wpList_store_rowTo rfl 40 (.tmp 3) (.tmp 16) rfl rfl w1.heap.size (stepV y) rfl rfl 40 (stepV stZ) (Row.new w1 (stepV stZ) 40).is (size40 _) (old40 _ _) (one40 _) ?_))
      have RA := Lib.hid (show Row (((w1.alloc (.cells #[.int .i64 0, .int .i64 0, .int .i64 0, .int .i64 0, .int .i64 0, .int .u64 0, .int .u64 0, .string ⟨#[]⟩] 40)).setRow w1.heap.size (stepV y))) w1.heap.size (stepV y) 40 from row_put (w := w1) y)
      have BA := Lib.hid (show Below w.heap.size w (((w1.alloc (.cells #[.int .i64 0, .int .i64 0, .int .i64 0, .int .i64 0, .int .i64 0, .int .u64 0, .int .u64 0, .string ⟨#[]⟩] 40)).setRow w1.heap.size (stepV y))) from below_put H1.out H1.out.size y)
      have XA := Lib.hid H1.out.size
      clear H1 PP
      generalize (((w1.alloc (.cells #[.int .i64 0, .int .i64 0, .int .i64 0, .int .i64 0, .int .i64 0, .int .u64 0, .int .u64 0, .string ⟨#[]⟩] 40)).setRow w1.heap.size (stepV y))) = wA at *
      generalize w1.heap.size = X at *
      go_upto_region 5 with (first | (go_at_call 14; refine (RQ.out _).mono ?_; rintro e w2 ⟨rfl, hb2⟩; have RB := Lib.hid (RA.out.below hb2); have BB := Lib.hid (bel BA.out hb2 BA.out.size); clear hb2) | (refine wpList_store_rowTo rfl 40 (.tmp 5) (.tmp 21) rfl rfl w2.heap.size (stepV y) rfl rfl 40 (stepV stZ) (Row.new w2 (stepV stZ) 40).is (size40 _) (old40 _ _) (one40 _) ?_))
      have RC := Lib.hid (show Row (((w2.alloc (.cells #[.int .i64 0, .int .i64 0, .int .i64 0, .int .i64 0, .int .i64 0, .int .u64 0, .int .u64 0, .string ⟨#[]⟩] 40)).setRow w2.heap.size (stepV y))) X (stepV y) 40 from (RB.out.alloc _).rowOther (by have := RB.out.lt; omega))
      have RC5 := Lib.hid (show Row (((w2.alloc (.cells #[.int .i64 0, .int .i64 0, .int .i64 0, .int .i64 0, .int .i64 0, .int .u64 0, .int .u64 0, .string ⟨#[]⟩] 40)).setRow w2.heap.size (stepV y))) w2.heap.size (stepV y) 40 from row_put (w := w2) y)
      have BC := Lib.hid (show Below w.heap.size w (((w2.alloc (.cells #[.int .i64 0, .int .i64 0, .int .i64 0, .int .i64 0, .int .i64 0, .int .u64 0, .int .u64 0, .string ⟨#[]⟩] 40)).setRow w2.heap.size (stepV y))) from below_put BB.out BB.out.size y)
      clear RA BA RB BB
      generalize (((w2.alloc (.cells #[.int .i64 0, .int .i64 0, .int .i64 0, .int .i64 0, .int .i64 0, .int .u64 0, .int .u64 0, .string ⟨#[]⟩] 40)).setRow w2.heap.size (stepV y))) = wC at *
      generalize w2.heap.size = Y at *
      go_upto_region 8 with (first | (refine wpList_load_row rfl 40 (.tmp 3) rfl X rfl 40 _ (0, 0) _ RC.out.is Tryd.underlying40 rfl (size40 _) ?_) | (go_at_call 15; refine (LN.out _ (HV.out _ BC.out)).mono ?_; rintro e w3 ⟨rfl, hb3⟩; have RD := Lib.hid (RC.out.below hb3); have RD5 := Lib.hid (RC5.out.below hb3); have BD := Lib.hid (bel BC.out hb3 BC.out.size); clear hb3 RC RC5))
      go_wp2_with (first | (go_at_call 12; refine (Awake.awake _ (HV.out _ BD.out)).mono ?_; rintro e w4 ⟨rfl, hb4⟩; have RE := Lib.hid (RD.out.below hb4); have RE5 := Lib.hid (RD5.out.below hb4); have BE := Lib.hid (bel BD.out hb4 BD.out.size); have cX0 := RE.out.cell 0 (v := .int .i64 (y.k : Int)) rfl; have cX1 := RE.out.cell 1 (v := .int .i64 y.side) rfl; have cX2 := RE.out.cell 2 (v := .int .i64 y.n) rfl; have cX3 := RE.out.cell 3 (v := .int .i64 y.c) rfl; have cX4 := RE.out.cell 4 (v := .int .i64 y.f) rfl; have cX5 := RE.out.cell 5 (v := .int .u64 0) rfl; have cX6 := RE.out.cell 6 (v := .int .u64 (y.t : Int)) rfl; have cX7 := RE.out.cell 7 (v := .string ⟨y.d.toArray⟩) rfl; have cY0 := RE5.out.cell 0 (v := .int .i64 (y.k : Int)) rfl; have cY1 := RE5.out.cell 1 (v := .int .i64 y.side) rfl; have cY2 := RE5.out.cell 2 (v := .int .i64 y.n) rfl; have cY3 := RE5.out.cell 3 (v := .int .i64 y.c) rfl; have cY4 := RE5.out.cell 4 (v := .int .i64 y.f) rfl; have cY5 := RE5.out.cell 5 (v := .int .u64 0) rfl; have cY6 := RE5.out.cell 6 (v := .int .u64 (y.t : Int)) rfl; have cY7 := RE5.out.cell 7 (v := .string ⟨y.d.toArray⟩) rfl; clear hb4))
      go_ret
      exact ⟨rfl, BE.out⟩
  · have d0 : (300 : Int) < (s.size : Int) := by omega
    clear hsh hv
    have HB := Lib.hid (Below.refl w.heap.size w)
    go_enter Tryd.func4, Tryd.ntmps4
    go_wp2_with (go_at_call 12; refine (Awake.awake _ (HV.out _ HB.out)).mono ?_; rintro e w1 ⟨rfl, hb1⟩)
    go_ret
    exact ⟨rfl, hb1⟩
end Go.Proofs.YtoahfegeeimomaaDoor.StepLines
