/- The walk of muleteerlaw29.ScanNobody. Conditions: as stated in each theorem. -/
import Derived.Test.YtbodhkaohmfijaaScanLook
import Derived.Test.YtbodhkaohmfijaaScanUse
set_option linter.unusedVariables false
set_option linter.unusedSimpArgs false
namespace Go.Proofs.Ytbodhkaohmfijaa.ScanLaw
open Go.RowKit Base ScanDir ScanRow ScanPlain ScanSmall ScanMake ScanWorld ScanRight ScanLook ScanUse
set_option maxRecDepth 100000

theorem lookMade' (S W : Nat) (w : World) (hS : Row w S #[.int .i64 0, .int .i64 0] 47) (hm : Made w W) : Calls Try.prog 9 #[.pointer (some ⟨S, 0, none⟩), .pointer (some ⟨W, 0, none⟩)] w fun e w' => e = .returned (.tuple #[.agg keyZ, .bool false, .bool false]) ∧ Below w.heap.size w w' := by
  obtain ⟨L0, L1, h1, h2, h3⟩ := hm.is
  obtain ⟨s, p, q, g, c, N, m0, m1, x1, _⟩ := h2.is
  exact lookMade S w (hS.cell 0 rfl) (hS.cell 1 rfl) W L0 (h1.cell 0 rfl) (x1.cell 6 rfl)
set_option maxHeartbeats 4000000 in
theorem awake (w : World) : Calls Try.prog 4 #[] w fun e w' => e = .returned (.bool true) ∧ Below w.heap.size w w' := by
  go_enter Try.func4, Try.ntmps4
  go_wp2_with fail
  refine (plain _).mono ?_
  rintro e w1 ⟨g, c, rfl, _, hg, hb1⟩
  have HB1 := Lib.hid hb1
  have HG := Lib.hid hg
  clear hb1 hg
  go_wp2_with fail
  refine (worldNew g c _ HG.out).mono ?_
  rintro e w2 ⟨W, rfl, hm, hb2⟩
  have HM := Lib.hid hm
  have HB2 := Lib.hid (bel HB1.out hb2 HB1.out.size)
  clear hm hb2 HB1 HG
  go_wp2_with fail
  refine (new0 _).mono ?_
  rintro e w3 ⟨rfl, rfl⟩
  go_wp2_with fail
  refine (lookMade' _ W _ (Row.new w2 _ _) (HM.out.below ((Below.refl _ _).alloc (Nat.le_refl _) _))).mono ?_
  rintro e w4 ⟨rfl, hb4⟩
  have HB4 := Lib.hid (bel (HB2.out.alloc HB2.out.size _) hb4 (HB2.out.alloc HB2.out.size _).size)
  clear hb4 HB2 HM
  unfold keyZ
  go_wp2
  go_ret
  exact ⟨rfl, HB4.out.alloc HB4.out.size _⟩
theorem law_long (k h c f s t n : Int) (d a : ByteArray) (w : World) (hl : 200 < (d.size : Int) ∨ ¬ 200 < (d.size : Int) ∧ 200 < (a.size : Int)) :
    Calls Try.prog 3 #[.agg #[.int .i64 k, .int .u64 h, .int .i64 c, .int .i64 f, .int .u64 s, .int .u64 t, .string d, .string a], .int .i64 n] w fun e w' => e = .returned (.bool true) ∧ Below w.heap.size w w' := by
  rcases hl with h1 | ⟨h1, h2⟩
  all_goals go_enter Try.func3, Try.ntmps3
  all_goals go_wp2_with fail
  all_goals refine (awake _).mono ?_
  all_goals rintro e w1 ⟨rfl, hb1⟩
  all_goals go_wp2
  all_goals go_ret
  all_goals exact ⟨rfl, bel ((Below.refl _ _).alloc (Nat.le_refl _) _) hb1 (by simp)⟩
set_option maxHeartbeats 4000000 in
theorem law_short (k h c f s t n : Int) (d a : ByteArray) (w : World) (h1 : ¬ 200 < (d.size : Int)) (h2 : ¬ 200 < (a.size : Int)) :
    Calls Try.prog 3 #[.agg #[.int .i64 k, .int .u64 h, .int .i64 c, .int .i64 f, .int .u64 s, .int .u64 t, .string d, .string a], .int .i64 n] w fun e w' => e = .returned (.bool true) ∧ Below w.heap.size w w' := by
  go_enter Try.func3, Try.ntmps3
  have RE := Lib.hid (Row.new w #[.int .i64 k, .int .u64 h, .int .i64 c, .int .i64 f, .int .u64 s, .int .u64 t, .string d, .string a] 26)
  have HB := Lib.hid ((Below.refl _ w).alloc (Nat.le_refl _) (.cells #[.int .i64 k, .int .u64 h, .int .i64 c, .int .i64 f, .int .u64 s, .int .u64 t, .string d, .string a] 26))
  go_wp2_with (first | (go_at_call 5; refine (next _).mono ?_; rintro e w1 ⟨rfl, rfl⟩) | (go_at_call 6; refine (reset _).mono ?_; rintro e w1 ⟨rfl, rfl⟩))
  generalize w.alloc _ = w0 at *
  refine (plain _).mono ?_
  rintro e w1 ⟨g, c1, rfl, _, hg, hb1⟩
  have HB1 := Lib.hid (bel HB.out hb1 HB.out.size)
  have HG := Lib.hid hg
  have RE1 := Lib.hid (RE.out.below hb1)
  clear hb1 hg RE HB
  go_wp2_with fail
  refine (worldNew g c1 _ HG.out).mono ?_
  rintro e w2 ⟨W, rfl, hm, hb2⟩
  have HM := Lib.hid hm
  have HB2 := Lib.hid (bel HB1.out hb2 HB1.out.size)
  have RE2 := Lib.hid (RE1.out.below hb2)
  clear hm hb2 HB1 HG RE1
  go_wp2_with fail
  refine (lookNil _ _).mono ?_
  rintro e w3 ⟨rfl, hb3⟩
  have hk := Below.alloc (Below.refl w3.heap.size w3) (Nat.le_refl _) (.cells #[.int .i64 0, .int .i64 0, .int .u64 0] 38)
  have HM3 := Lib.hid ((HM.out.below hb3).below hk)
  have HB3 := Lib.hid (bel (bel HB2.out hb3 HB2.out.size) hk (bel HB2.out hb3 HB2.out.size).size)
  have RE3 := Lib.hid ((RE2.out.below hb3).below hk)
  clear hk hb3 HM HB2 RE2
  unfold keyZ
  go_wp2_with fail
  generalize w3.alloc _ = w4 at *
  refine (new0 _).mono ?_
  rintro e w5 ⟨rfl, rfl⟩
  have hk := Below.alloc (Below.refl w4.heap.size w4) (Nat.le_refl _) (.cells #[.int .i64 0, .int .i64 0] 47)
  have HM5 := Lib.hid (HM3.out.below hk)
  have HB5 := Lib.hid (bel HB3.out hk HB3.out.size)
  have RE5 := Lib.hid (RE3.out.below hk)
  have RS5 := Lib.hid (Row.new w4 #[.int .i64 0, .int .i64 0] 47)
  clear hk HM3 HB3 RE3
  go_wp2_with fail
  generalize w4.alloc _ = w5 at *
  refine (lookNo w4.heap.size w5 (RS5.out.cell 0 rfl) (RS5.out.cell 1 rfl)).mono ?_
  rintro e w6 ⟨rfl, hb6⟩
  have hk := Below.alloc (Below.refl w6.heap.size w6) (Nat.le_refl _) (.cells #[.int .i64 0, .int .i64 0, .int .u64 0] 38)
  have HM7 := Lib.hid ((HM5.out.below hb6).below hk)
  have HB7 := Lib.hid (bel (bel HB5.out hb6 HB5.out.size) hk (bel HB5.out hb6 HB5.out.size).size)
  have RE7 := Lib.hid ((RE5.out.below hb6).below hk)
  clear hk hb6 HM5 HB5 RE5 RS5
  unfold keyZ
  go_wp2_with fail
  generalize w6.alloc _ = w7 at *
  refine (awake _).mono ?_
  rintro e w8 ⟨rfl, hb8⟩
  have HM8 := Lib.hid (HM7.out.below hb8)
  have HB8 := Lib.hid (bel HB7.out hb8 HB7.out.size)
  have RE8 := Lib.hid (RE7.out.below hb8)
  clear hb8 HM7 HB7 RE7
  have z0 := RE8.out.cell 0 (v := .int .i64 k) rfl
  have z1 := RE8.out.cell 1 (v := .int .u64 h) rfl
  have z2 := RE8.out.cell 2 (v := .int .i64 c) rfl
  have z3 := RE8.out.cell 3 (v := .int .i64 f) rfl
  have z4 := RE8.out.cell 4 (v := .int .u64 s) rfl
  have z5 := RE8.out.cell 5 (v := .int .u64 t) rfl
  have z6 := RE8.out.cell 6 (v := .string d) rfl
  have z7 := RE8.out.cell 7 (v := .string a) rfl
  go_wp2_with (go_at_call 11; refine (place _).mono ?_; rintro e w9 ⟨rfl, rfl⟩)
  refine (use n k h c f s t d a W _ HM8.out).mono ?_
  rintro e w9 ⟨rfl, hb9⟩
  have HB9 := Lib.hid (bel HB8.out hb9 HB8.out.size)
  have RE9 := Lib.hid (RE8.out.below hb9)
  clear hb9 HM8 HB8 RE8 z0 z1 z2 z3 z4 z5 z6 z7
  have z0 := RE9.out.cell 0 (v := .int .i64 k) rfl
  have z1 := RE9.out.cell 1 (v := .int .u64 h) rfl
  have z2 := RE9.out.cell 2 (v := .int .i64 c) rfl
  have z3 := RE9.out.cell 3 (v := .int .i64 f) rfl
  have z4 := RE9.out.cell 4 (v := .int .u64 s) rfl
  have z5 := RE9.out.cell 5 (v := .int .u64 t) rfl
  have z6 := RE9.out.cell 6 (v := .string d) rfl
  have z7 := RE9.out.cell 7 (v := .string a) rfl
  go_wp2_with fail
  refine (useNil n k h c f s t d a _).mono ?_
  rintro e w10 ⟨rfl, hb10⟩
  have HB10 := Lib.hid (bel HB9.out hb10 HB9.out.size)
  clear hb10 HB9 RE9 z0 z1 z2 z3 z4 z5 z6 z7
  go_wp2
  go_ret
  exact ⟨rfl, HB10.out⟩
theorem law (k h c f s t n : Int) (d a : ByteArray) (w : World) :
    Calls Try.prog 3 #[.agg #[.int .i64 k, .int .u64 h, .int .i64 c, .int .i64 f, .int .u64 s, .int .u64 t, .string d, .string a], .int .i64 n] w fun e w' => e = .returned (.bool true) ∧ Below w.heap.size w w' := by
  by_cases h1 : 200 < (d.size : Int)
  · exact law_long k h c f s t n d a w (.inl h1)
  · by_cases h2 : 200 < (a.size : Int)
    · exact law_long k h c f s t n d a w (.inr ⟨h1, h2⟩)
    · exact law_short k h c f s t n d a w h1 h2
end Go.Proofs.Ytbodhkaohmfijaa.ScanLaw
