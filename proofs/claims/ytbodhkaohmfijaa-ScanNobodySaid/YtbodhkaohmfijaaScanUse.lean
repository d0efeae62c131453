/- scan.Use that is of no use. Conditions: as stated in each theorem. -/
import Derived.Test.YtbodhkaohmfijaaScanWorld
import Derived.Test.YtbodhkaohmfijaaScanRight
import Derived.Handy
set_option linter.unusedVariables false
set_option linter.unusedSimpArgs false
namespace Go.Proofs.Ytbodhkaohmfijaa.ScanUse
open Go.RowKit Base ScanDir ScanRow ScanPlain ScanSmall ScanMake ScanWorld ScanRight Go.Great
set_option maxRecDepth 100000

theorem useNil (n k h c f s t : Int) (d a : ByteArray) (w : World) : Calls Try.prog 12 #[.pointer none, .int .i64 n, .agg #[.int .i64 k, .int .u64 h, .int .i64 c, .int .i64 f, .int .u64 s, .int .u64 t, .string d, .string a]] w fun e w' => e = .returned (.bool false) ∧ Below w.heap.size w w' := by
  have HD := Lib.hid (fun w => dir n w)
  go_enter Try.func12, Try.ntmps12
  go_wp2_with (first | (go_at_call 14; refine (HD.out _).mono ?_; rintro e w1 ⟨rfl, rfl⟩) | (go_at_call 15; refine (sideNil _ _).mono ?_; rintro e w1 ⟨rfl, rfl⟩))
  go_ret
  exact ⟨rfl, (Below.refl _ _).alloc (Nat.le_refl _) _⟩
/-- no direction -/
theorem useOut (n k h c f s t : Int) (d a : ByteArray) (W : Nat) (hn : ¬ (0 ≤ n ∧ n ≤ 7)) (w : World) : Calls Try.prog 12 #[.pointer (some ⟨W, 0, none⟩), .int .i64 n, .agg #[.int .i64 k, .int .u64 h, .int .i64 c, .int .i64 f, .int .u64 s, .int .u64 t, .string d, .string a]] w fun e w' => e = .returned (.bool false) ∧ Below w.heap.size w w' := by
  have hd : ∀ w, Calls Try.prog 14 #[.int .i64 n] w fun e w' => e = .returned (.tuple #[.int .i64 (-1), .int .i64 (-1)]) ∧ w' = w := by
    intro w
    have := dir n w
    rw [show chan n = -1 by simp [chan, hn], show side n = -1 by simp [side, hn]] at this
    exact this
  have HD := Lib.hid hd
  clear hd hn
  go_enter Try.func12, Try.ntmps12
  go_wp2_with (first | (go_at_call 14; refine (HD.out _).mono ?_; rintro e w1 ⟨rfl, rfl⟩) | (go_at_call 15; refine (sideNone _ _).mono ?_; rintro e w1 ⟨rfl, rfl⟩))
  go_ret
  exact ⟨rfl, (Below.refl _ _).alloc (Nat.le_refl _) _⟩
set_option maxHeartbeats 4000000 in
theorem useIn (n k h c f s t q r : Int) (d a : ByteArray) (W L : Nat) (w : World) (hd : ∀ w, Calls Try.prog 14 #[.int .i64 n] w fun e w' => e = .returned (.tuple #[.int .i64 q, .int .i64 r]) ∧ w' = w)
    (hs : ∀ o, Calls Try.prog 15 #[.pointer (some ⟨W, 0, none⟩), .int .i64 r] (w.alloc o) fun e w' => e = .returned (.pointer (some ⟨L, 0, none⟩)) ∧ w' = w.alloc o) (hl : Led w 0 L) (hq : q = 0 ∨ 1 ≤ q ∧ q ≤ 3) :
    Calls Try.prog 12 #[.pointer (some ⟨W, 0, none⟩), .int .i64 n, .agg #[.int .i64 k, .int .u64 h, .int .i64 c, .int .i64 f, .int .u64 s, .int .u64 t, .string d, .string a]] w fun e w' => e = .returned (.bool false) ∧ Below w.heap.size w w' := by
  have HD := Lib.hid hd
  have HS := Lib.hid hs
  have HL := Lib.hid hl
  have HQ := Lib.hid hq
  clear hd hs hl hq
  go_enter Try.func12, Try.ntmps12
  go_wp2_with (first | (go_at_call 14; refine (HD.out _).mono ?_; rintro e w1 ⟨rfl, rfl⟩) | (go_at_call 15; refine (HS.out _).mono ?_; rintro e w1 ⟨rfl, rfl⟩))
  refine (eventRight k h c f s t d a _).mono ?_
  rintro e w1 ⟨⟨y, rfl⟩, hb1⟩
  obtain ⟨hcl, hfr⟩ := bcell hb1
  have HL1 := Lib.hid ((HL.out.below ((Below.refl _ _).alloc (Nat.le_refl _) _)).below hb1)
  have HB1 := Lib.hid (bel ((Below.refl w.heap.size w).alloc (Nat.le_refl _) _) hb1 (by simp))
  have hsz : w.heap.size < w1.heap.size := by have := hb1.size; simp at this; omega
  clear HL hb1 HD HS
  cases y
  · go_wp2
    go_ret
    exact ⟨rfl, HB1.out⟩
  · by_cases k1 : k = 1
    · by_cases k2 : c = q
      · by_cases k3 : f = r
        · subst k1 k2 k3
          obtain ⟨s0, p0, q0, g, c0, N, m0, m1, x1, x2, x3, x4, _⟩ := HL1.out.is
          have c5 := x1.cell 5 (v := .slice (some ⟨g, 0, none⟩) 1 c0) rfl
          have X3 := Lib.hid x3
          have X4 := Lib.hid x4
          clear x1 x3 x4
          rcases HQ.out with rfl | ⟨hq1, hq2⟩
          · go_wp2_with (go_at_call 19; refine (line0 L g c0 _ _ c5 x2).mono ?_; rintro e w2 ⟨rfl, rfl⟩)
            refine (commit N m0 s _ (X3.out.cell 7 (v := .map (some m0)) rfl) X4.out).mono ?_
            rintro e w3 ⟨rfl, hb3⟩
            have HB3 := Lib.hid (HB1.out.trans (hb3.mono HB1.out.size))
            clear hcl hfr x2 c5 HB1 hsz hb3
            go_wp2_with (refine wpList_store_rowTo rfl 66 (.tmp 11) (.tmp 56) rfl rfl w3.heap.size sumZ rfl rfl 66 ?old ?hg sz1 ?ho sz2 ?_; go_must (case hg => exact heap_alloc_new _ _); go_must (case ho => kernel_rfl))
            go_ret
            exact ⟨rfl, belowRow (HB3.out.alloc HB3.out.size _) HB3.out.size _⟩
          · go_wp2_with (go_at_call 19; refine (lineNone L c hq1 hq2 _ c0 _ c5).mono ?_; rintro e w2 ⟨rfl, rfl⟩)
            refine (commitNil s _).mono ?_
            rintro e w3 ⟨rfl, hb3⟩
            have HB3 := Lib.hid (HB1.out.trans (hb3.mono HB1.out.size))
            clear hcl hfr x2 c5 HB1 hsz hb3
            go_wp2_with (refine wpList_store_rowTo rfl 66 (.tmp 11) (.tmp 56) rfl rfl w3.heap.size sumZ rfl rfl 66 ?old ?hg sz1 ?ho sz2 ?_; go_must (case hg => exact heap_alloc_new _ _); go_must (case ho => kernel_rfl))
            go_ret
            exact ⟨rfl, belowRow (HB3.out.alloc HB3.out.size _) HB3.out.size _⟩
        · subst k1 k2
          go_wp2
          all_goals go_ret
          all_goals exact ⟨rfl, HB1.out⟩
      · subst k1
        go_wp2
        all_goals go_ret
        all_goals exact ⟨rfl, HB1.out⟩
    · go_wp2
      all_goals go_ret
      all_goals exact ⟨rfl, HB1.out⟩
/-- of a made world -/
theorem use (n k h c f s t : Int) (d a : ByteArray) (W : Nat) (w : World) (hm : Made w W) : Calls Try.prog 12 #[.pointer (some ⟨W, 0, none⟩), .int .i64 n, .agg #[.int .i64 k, .int .u64 h, .int .i64 c, .int .i64 f, .int .u64 s, .int .u64 t, .string d, .string a]] w fun e w' => e = .returned (.bool false) ∧ Below w.heap.size w w' := by
  by_cases hn : 0 ≤ n ∧ n ≤ 7
  · obtain ⟨L0, L1, h1, h2, h3⟩ := hm.is
    have hd : ∀ w, Calls Try.prog 14 #[.int .i64 n] w fun e w' => e = .returned (.tuple #[.int .i64 (n / 2), .int .i64 (n % 2)]) ∧ w' = w := by
      intro w
      have := dir n w
      rw [show chan n = n / 2 by simp [chan, hn], show side n = n % 2 by simp [side, hn]] at this
      exact this
    have hq : n / 2 = 0 ∨ 1 ≤ n / 2 ∧ n / 2 ≤ 3 := by omega
    rcases (by omega : n % 2 = 0 ∨ n % 2 = 1) with e | e
    · rw [e] at hd
      exact useIn n k h c f s t (n / 2) 0 d a W L0 w hd (fun o => side0 W _ _ ((h1.alloc o).cell 0 rfl)) h2 hq
    · rw [e] at hd
      exact useIn n k h c f s t (n / 2) 1 d a W L1 w hd (fun o => side1 W _ _ ((h1.alloc o).cell 1 rfl)) h3 hq
  · exact useOut n k h c f s t d a W hn w
end Go.Proofs.Ytbodhkaohmfijaa.ScanUse
