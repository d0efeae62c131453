/- The reference's Parse at kind 8. Conditions: as stated in each theorem. -/
import Derived.Test.YtoahfegeeimomaaDoorRefBase
import Derived.Deep.RegionWith
import Derived.Deep.Cut
set_option linter.unusedVariables false
set_option linter.unusedSimpArgs false
namespace Go.Proofs.YtoahfegeeimomaaDoor.RefParse
open Go.RowKit Base RowD Number TextP LinesPlain Num LoopsPlain Loops Loops2 Kinds Right RefRight Hex Line Line3 RefWords Split Parse
set_option maxRecDepth 100000
set_option maxHeartbeats 8000000 in
theorem refParse8 (s : ByteArray) (hm : s.size ≤ 300) (hk : kindUp ((splitSp s.data.toList).getD 0 []) 8 = 8) (w : World) : Calls Tryd.prog 14 #[.string s] w fun e w' => RP s.data.toList e ∧ Below w.heap.size w w' := by
  have RR := Lib.hid (Row.new w (stepV stZ) 40)
  have HB := Lib.hid ((Below.refl w.heap.size w).alloc (Nat.le_refl _) (.cells (stepV stZ) 40))
  go_enter Tryd.func14, Tryd.ntmps14
  go_wp2_with fail
  refine (refWords s (by omega) _).mono ?_
  rintro e w1 ⟨g, cap, ws, rfl, hst, hws, hb1, hg1⟩
  have hgs : g < w1.heap.size := by
    cases hws0 : ws with
    | nil => rw [hws0] at hws; exact absurd hws.symm (splitSp_ne _)
    | cons a r => exact World.block_lt_of_cell? w1 _ (hst.cell 0 (by rw [hws0]; simp))
  have hI : In w (w1.alloc (.cells (stepV stZ) 40)) w1.heap.size g ws stZ :=
    ⟨(RR.out.below hb1).alloc _, Row.new w1 _ _, hst.below ((Below.refl _ _).alloc (Nat.le_refl _) _), (bel HB.out hb1 HB.out.size).alloc (bel HB.out hb1 HB.out.size).size _, by have := hb1.size; simp at this; omega, by omega⟩
  have hX : w1.heap.size < (w1.alloc (.cells (stepV stZ) 40)).heap.size := by simp
  have HI := Lib.hid hI
  have HW := Lib.hid hws
  clear hst hb1 hI hws RR HB hg1 hgs
  go_wp2_with (first | (refine wpList_buildTo rfl 40 #[] rfl (some 17) rfl (stepV stZ) (by simpa using built40) ?_) | (refine wpList_store_rowTo rfl 40 (.tmp 5) (.tmp 17) rfl rfl w1.heap.size (stepV stZ) rfl rfl 40 (stepV stZ) HI.out.row.is (size40 _) (old40 _ _) (one40 _) ?_))
  have HI2 := Lib.hid (in_putRow HI.out stZ)
  obtain ⟨w0, rs, hws0⟩ : ∃ a r, ws = a :: r := by
    cases hws0 : ws with
    | nil => have := HW.out; rw [hws0] at this; exact absurd this.symm (splitSp_ne _)
    | cons a r => exact ⟨a, r, rfl⟩
  have HW0 := Lib.hid hws0
  clear hws0 HI hX
  generalize w1.heap.size = X at *
  go_loopw [6] (fun i wr => ∃ k : Nat, 1 ≤ k ∧ k ≤ 9 ∧ i = .int .i64 (k : Int) ∧ In w wr X g ws ⟨kindUp w0.data.toList (k - 1), 0, 0, 0, 0, 0, []⟩) (fun i _ => 10 - (intOf i).toNat)
  case atStart => exact ⟨1, by omega, by omega, rfl, HI2.out⟩
  case round =>
    obtain ⟨k, hk1, hk9, rfl, hin⟩ := hrel
    have HN := Lib.hid hin
    clear hin HI2
    have C0 := Lib.hid (fun w3 (hs3 : Strs w3 g ws) => show w3.cell? ⟨g, 0, none⟩ = some (.string w0) from (hs3.cell 0 (by rw [HW0.out]; simp)).trans (by simp [HW0.out]))
    by_cases hlt : k ≤ 8
    · have hlen : 0 < ws.length := by rw [HW0.out]; simp
      have HK := Lib.hid (show kindUp w0.data.toList k = if wordL k = w0.data.toList then k else kindUp w0.data.toList (k - 1) by
        rw [show kindUp w0.data.toList k = kindUp w0.data.toList ((k - 1) + 1) by rw [show k - 1 + 1 = k by omega], kindUp, show k - 1 + 1 = k by omega])
      generalize kindUp w0.data.toList (k - 1) = k0 at *
      obtain rfl | rfl | rfl | rfl | rfl | rfl | rfl | rfl : k = 1 ∨ k = 2 ∨ k = 3 ∨ k = 4 ∨ k = 5 ∨ k = 6 ∨ k = 7 ∨ k = 8 := by omega
      · rw [show ((1 : Nat) : Int) = 1 from rfl]
        go_upto_region 6 with fail
        refine Tail.wp_region_class_tail (fun w' => In w w' X g ws ⟨k0, 0, 0, 0, 0, 0, []⟩) 5 (by kernel_rfl) (by kernel_rfl) (HN.out.drewN 1) ?_
        simp only [List.take_succ_cons, List.take_zero, List.drop_succ_cons, List.drop_zero]
        refine wpQuiet_step (fun K hK => ?_)
        refine Tail.class_step (.int .i64 1) (by rfl) (fun wc hwc => ?_) ?_
        · go_simp
        go_simp
        refine hK _ ?_
        clear hK K
        refine wpQuiet_step (fun K hK => ?_)
        refine Tail.class_step (.string ⟨#[112, 105, 99, 107]⟩) (by rfl) (fun wc hwc => ?_) ?_
        · go_simp
          refine (refWord1 _).mono ?_
          rintro e wx ⟨rfl, hb⟩
          exact ⟨rfl, hwc.to hb⟩
        go_simp
        refine hK _ ?_
        clear hK K
        refine wpQuiet_step (fun K hK => ?_)
        refine Tail.class_step (.slice (some ⟨g, 0, none⟩) ws.length cap) (by rfl) (fun wc hwc => ?_) ?_
        · go_simp
        go_simp
        refine hK _ ?_
        clear hK K
        refine wpQuiet_step (fun K hK => ?_)
        refine Tail.class_step (.pointer (some ⟨g, 0, none⟩)) (by rfl) (fun wc hwc => ?_) ?_
        · go_simp
        go_simp
        refine hK _ ?_
        clear hK K
        refine wpQuiet_step (fun K hK => ?_)
        refine Tail.class_step (.string w0) (by rfl) (fun wc hwc => ?_) ?_
        · have c0 := C0.out _ hwc.strs
          go_simp
        go_simp
        refine hK _ ?_
        clear hK K
        refine wpQuiet_nil ?_
        intro wb hwb
        have HB := Lib.hid hwb
        clear hwb HN
        have f0 := HB.out.row.free 0
        have cx := HB.out.row.cell 0 (v := .int .i64 (k0 : Int)) rfl
        by_cases hq : [112, 105, 99, 107] = w0.data.toList
        · have q1 := word_eq _ _ hq
          have HK2 := Lib.hid (HK.out.trans (if_pos hq))
          clear hq
          go_wp2
          go_roundw
          case rel => exact ⟨2, by omega, by omega, by go_num, by rw [show 2 - 1 = 1 from rfl, HK2.out]; exact HB.out.set 0 _ _ rfl⟩
          case measure => simp [intOf]
        · have q1 := word_ne _ _ hq
          have HK2 := Lib.hid (HK.out.trans (if_neg hq))
          clear hq
          go_wp2
          go_roundw
          case rel => exact ⟨2, by omega, by omega, by go_num, by rw [show 2 - 1 = 1 from rfl, HK2.out]; exact HB.out⟩
          case measure => simp [intOf]
      · rw [show ((2 : Nat) : Int) = 2 from rfl]
        go_upto_region 6 with fail
        refine Tail.wp_region_class_tail (fun w' => In w w' X g ws ⟨k0, 0, 0, 0, 0, 0, []⟩) 5 (by kernel_rfl) (by kernel_rfl) (HN.out.drewN 1) ?_
        simp only [List.take_succ_cons, List.take_zero, List.drop_succ_cons, List.drop_zero]
        refine wpQuiet_step (fun K hK => ?_)
        refine Tail.class_step (.int .i64 2) (by rfl) (fun wc hwc => ?_) ?_
        · go_simp
        go_simp
        refine hK _ ?_
        clear hK K
        refine wpQuiet_step (fun K hK => ?_)
        refine Tail.class_step (.string ⟨#[116, 105, 99, 107]⟩) (by rfl) (fun wc hwc => ?_) ?_
        · go_simp
          refine (refWord2 _).mono ?_
          rintro e wx ⟨rfl, hb⟩
          exact ⟨rfl, hwc.to hb⟩
        go_simp
        refine hK _ ?_
        clear hK K
        refine wpQuiet_step (fun K hK => ?_)
        refine Tail.class_step (.slice (some ⟨g, 0, none⟩) ws.length cap) (by rfl) (fun wc hwc => ?_) ?_
        · go_simp
        go_simp
        refine hK _ ?_
        clear hK K
        refine wpQuiet_step (fun K hK => ?_)
        refine Tail.class_step (.pointer (some ⟨g, 0, none⟩)) (by rfl) (fun wc hwc => ?_) ?_
        · go_simp
        go_simp
        refine hK _ ?_
        clear hK K
        refine wpQuiet_step (fun K hK => ?_)
        refine Tail.class_step (.string w0) (by rfl) (fun wc hwc => ?_) ?_
        · have c0 := C0.out _ hwc.strs
          go_simp
        go_simp
        refine hK _ ?_
        clear hK K
        refine wpQuiet_nil ?_
        intro wb hwb
        have HB := Lib.hid hwb
        clear hwb HN
        have f0 := HB.out.row.free 0
        have cx := HB.out.row.cell 0 (v := .int .i64 (k0 : Int)) rfl
        by_cases hq : [116, 105, 99, 107] = w0.data.toList
        · have q1 := word_eq _ _ hq
          have HK2 := Lib.hid (HK.out.trans (if_pos hq))
          clear hq
          go_wp2
          go_roundw
          case rel => exact ⟨3, by omega, by omega, by go_num, by rw [show 3 - 1 = 2 from rfl, HK2.out]; exact HB.out.set 0 _ _ rfl⟩
          case measure => simp [intOf]
        · have q1 := word_ne _ _ hq
          have HK2 := Lib.hid (HK.out.trans (if_neg hq))
          clear hq
          go_wp2
          go_roundw
          case rel => exact ⟨3, by omega, by omega, by go_num, by rw [show 3 - 1 = 2 from rfl, HK2.out]; exact HB.out⟩
          case measure => simp [intOf]
      · rw [show ((3 : Nat) : Int) = 3 from rfl]
        go_upto_region 6 with fail
        refine Tail.wp_region_class_tail (fun w' => In w w' X g ws ⟨k0, 0, 0, 0, 0, 0, []⟩) 5 (by kernel_rfl) (by kernel_rfl) (HN.out.drewN 1) ?_
        simp only [List.take_succ_cons, List.take_zero, List.drop_succ_cons, List.drop_zero]
        refine wpQuiet_step (fun K hK => ?_)
        refine Tail.class_step (.int .i64 3) (by rfl) (fun wc hwc => ?_) ?_
        · go_simp
        go_simp
        refine hK _ ?_
        clear hK K
        refine wpQuiet_step (fun K hK => ?_)
        refine Tail.class_step (.string ⟨#[115, 101, 110, 100]⟩) (by rfl) (fun wc hwc => ?_) ?_
        · go_simp
          refine (refWord3 _).mono ?_
          rintro e wx ⟨rfl, hb⟩
          exact ⟨rfl, hwc.to hb⟩
        go_simp
        refine hK _ ?_
        clear hK K
        refine wpQuiet_step (fun K hK => ?_)
        refine Tail.class_step (.slice (some ⟨g, 0, none⟩) ws.length cap) (by rfl) (fun wc hwc => ?_) ?_
        · go_simp
        go_simp
        refine hK _ ?_
        clear hK K
        refine wpQuiet_step (fun K hK => ?_)
        refine Tail.class_step (.pointer (some ⟨g, 0, none⟩)) (by rfl) (fun wc hwc => ?_) ?_
        · go_simp
        go_simp
        refine hK _ ?_
        clear hK K
        refine wpQuiet_step (fun K hK => ?_)
        refine Tail.class_step (.string w0) (by rfl) (fun wc hwc => ?_) ?_
        · have c0 := C0.out _ hwc.strs
          go_simp
        go_simp
        refine hK _ ?_
        clear hK K
        refine wpQuiet_nil ?_
        intro wb hwb
        have HB := Lib.hid hwb
        clear hwb HN
        have f0 := HB.out.row.free 0
        have cx := HB.out.row.cell 0 (v := .int .i64 (k0 : Int)) rfl
        by_cases hq : [115, 101, 110, 100] = w0.data.toList
        · have q1 := word_eq _ _ hq
          have HK2 := Lib.hid (HK.out.trans (if_pos hq))
          clear hq
          go_wp2
          go_roundw
          case rel => exact ⟨4, by omega, by omega, by go_num, by rw [show 4 - 1 = 3 from rfl, HK2.out]; exact HB.out.set 0 _ _ rfl⟩
          case measure => simp [intOf]
        · have q1 := word_ne _ _ hq
          have HK2 := Lib.hid (HK.out.trans (if_neg hq))
          clear hq
          go_wp2
          go_roundw
          case rel => exact ⟨4, by omega, by omega, by go_num, by rw [show 4 - 1 = 3 from rfl, HK2.out]; exact HB.out⟩
          case measure => simp [intOf]
      · rw [show ((4 : Nat) : Int) = 4 from rfl]
        go_upto_region 6 with fail
        refine Tail.wp_region_class_tail (fun w' => In w w' X g ws ⟨k0, 0, 0, 0, 0, 0, []⟩) 5 (by kernel_rfl) (by kernel_rfl) (HN.out.drewN 1) ?_
        simp only [List.take_succ_cons, List.take_zero, List.drop_succ_cons, List.drop_zero]
        refine wpQuiet_step (fun K hK => ?_)
        refine Tail.class_step (.int .i64 4) (by rfl) (fun wc hwc => ?_) ?_
        · go_simp
        go_simp
        refine hK _ ?_
        clear hK K
        refine wpQuiet_step (fun K hK => ?_)
        refine Tail.class_step (.string ⟨#[114, 101, 106, 101, 99, 116]⟩) (by rfl) (fun wc hwc => ?_) ?_
        · go_simp
          refine (refWord4 _).mono ?_
          rintro e wx ⟨rfl, hb⟩
          exact ⟨rfl, hwc.to hb⟩
        go_simp
        refine hK _ ?_
        clear hK K
        refine wpQuiet_step (fun K hK => ?_)
        refine Tail.class_step (.slice (some ⟨g, 0, none⟩) ws.length cap) (by rfl) (fun wc hwc => ?_) ?_
        · go_simp
        go_simp
        refine hK _ ?_
        clear hK K
        refine wpQuiet_step (fun K hK => ?_)
        refine Tail.class_step (.pointer (some ⟨g, 0, none⟩)) (by rfl) (fun wc hwc => ?_) ?_
        · go_simp
        go_simp
        refine hK _ ?_
        clear hK K
        refine wpQuiet_step (fun K hK => ?_)
        refine Tail.class_step (.string w0) (by rfl) (fun wc hwc => ?_) ?_
        · have c0 := C0.out _ hwc.strs
          go_simp
        go_simp
        refine hK _ ?_
        clear hK K
        refine wpQuiet_nil ?_
        intro wb hwb
        have HB := Lib.hid hwb
        clear hwb HN
        have f0 := HB.out.row.free 0
        have cx := HB.out.row.cell 0 (v := .int .i64 (k0 : Int)) rfl
        by_cases hq : [114, 101, 106, 101, 99, 116] = w0.data.toList
        · have q1 := word_eq _ _ hq
          have HK2 := Lib.hid (HK.out.trans (if_pos hq))
          clear hq
          go_wp2
          go_roundw
          case rel => exact ⟨5, by omega, by omega, by go_num, by rw [show 5 - 1 = 4 from rfl, HK2.out]; exact HB.out.set 0 _ _ rfl⟩
          case measure => simp [intOf]
        · have q1 := word_ne _ _ hq
          have HK2 := Lib.hid (HK.out.trans (if_neg hq))
          clear hq
          go_wp2
          go_roundw
          case rel => exact ⟨5, by omega, by omega, by go_num, by rw [show 5 - 1 = 4 from rfl, HK2.out]; exact HB.out⟩
          case measure => simp [intOf]
      · rw [show ((5 : Nat) : Int) = 5 from rfl]
        go_upto_region 6 with fail
        refine Tail.wp_region_class_tail (fun w' => In w w' X g ws ⟨k0, 0, 0, 0, 0, 0, []⟩) 5 (by kernel_rfl) (by kernel_rfl) (HN.out.drewN 1) ?_
        simp only [List.take_succ_cons, List.take_zero, List.drop_succ_cons, List.drop_zero]
        refine wpQuiet_step (fun K hK => ?_)
        refine Tail.class_step (.int .i64 5) (by rfl) (fun wc hwc => ?_) ?_
        · go_simp
        go_simp
        refine hK _ ?_
        clear hK K
        refine wpQuiet_step (fun K hK => ?_)
        refine Tail.class_step (.string ⟨#[99, 114, 97, 115, 104]⟩) (by rfl) (fun wc hwc => ?_) ?_
        · go_simp
          refine (refWord5 _).mono ?_
          rintro e wx ⟨rfl, hb⟩
          exact ⟨rfl, hwc.to hb⟩
        go_simp
        refine hK _ ?_
        clear hK K
        refine wpQuiet_step (fun K hK => ?_)
        refine Tail.class_step (.slice (some ⟨g, 0, none⟩) ws.length cap) (by rfl) (fun wc hwc => ?_) ?_
        · go_simp
        go_simp
        refine hK _ ?_
        clear hK K
        refine wpQuiet_step (fun K hK => ?_)
        refine Tail.class_step (.pointer (some ⟨g, 0, none⟩)) (by rfl) (fun wc hwc => ?_) ?_
        · go_simp
        go_simp
        refine hK _ ?_
        clear hK K
        refine wpQuiet_step (fun K hK => ?_)
        refine Tail.class_step (.string w0) (by rfl) (fun wc hwc => ?_) ?_
        · have c0 := C0.out _ hwc.strs
          go_simp
        go_simp
        refine hK _ ?_
        clear hK K
        refine wpQuiet_nil ?_
        intro wb hwb
        have HB := Lib.hid hwb
        clear hwb HN
        have f0 := HB.out.row.free 0
        have cx := HB.out.row.cell 0 (v := .int .i64 (k0 : Int)) rfl
        by_cases hq : [99, 114, 97, 115, 104] = w0.data.toList
        · have q1 := word_eq _ _ hq
          have HK2 := Lib.hid (HK.out.trans (if_pos hq))
          clear hq
          go_wp2
          go_roundw
          case rel => exact ⟨6, by omega, by omega, by go_num, by rw [show 6 - 1 = 5 from rfl, HK2.out]; exact HB.out.set 0 _ _ rfl⟩
          case measure => simp [intOf]
        · have q1 := word_ne _ _ hq
          have HK2 := Lib.hid (HK.out.trans (if_neg hq))
          clear hq
          go_wp2
          go_roundw
          case rel => exact ⟨6, by omega, by omega, by go_num, by rw [show 6 - 1 = 5 from rfl, HK2.out]; exact HB.out⟩
          case measure => simp [intOf]
      · rw [show ((6 : Nat) : Int) = 6 from rfl]
        go_upto_region 6 with fail
        refine Tail.wp_region_class_tail (fun w' => In w w' X g ws ⟨k0, 0, 0, 0, 0, 0, []⟩) 5 (by kernel_rfl) (by kernel_rfl) (HN.out.drewN 1) ?_
        simp only [List.take_succ_cons, List.take_zero, List.drop_succ_cons, List.drop_zero]
        refine wpQuiet_step (fun K hK => ?_)
        refine Tail.class_step (.int .i64 6) (by rfl) (fun wc hwc => ?_) ?_
        · go_simp
        go_simp
        refine hK _ ?_
        clear hK K
        refine wpQuiet_step (fun K hK => ?_)
        refine Tail.class_step (.string ⟨#[102, 111, 114, 101, 105, 103, 110]⟩) (by rfl) (fun wc hwc => ?_) ?_
        · go_simp
          refine (refWord6 _).mono ?_
          rintro e wx ⟨rfl, hb⟩
          exact ⟨rfl, hwc.to hb⟩
        go_simp
        refine hK _ ?_
        clear hK K
        refine wpQuiet_step (fun K hK => ?_)
        refine Tail.class_step (.slice (some ⟨g, 0, none⟩) ws.length cap) (by rfl) (fun wc hwc => ?_) ?_
        · go_simp
        go_simp
        refine hK _ ?_
        clear hK K
        refine wpQuiet_step (fun K hK => ?_)
        refine Tail.class_step (.pointer (some ⟨g, 0, none⟩)) (by rfl) (fun wc hwc => ?_) ?_
        · go_simp
        go_simp
        refine hK _ ?_
        clear hK K
        refine wpQuiet_step (fun K hK => ?_)
        refine Tail.class_step (.string w0) (by rfl) (fun wc hwc => ?_) ?_
        · have c0 := C0.out _ hwc.strs
          go_simp
        go_simp
        refine hK _ ?_
        clear hK K
        refine wpQuiet_nil ?_
        intro wb hwb
        have HB := Lib.hid hwb
        clear hwb HN
        have f0 := HB.out.row.free 0
        have cx := HB.out.row.cell 0 (v := .int .i64 (k0 : Int)) rfl
        by_cases hq : [102, 111, 114, 101, 105, 103, 110] = w0.data.toList
        · have q1 := word_eq _ _ hq
          have HK2 := Lib.hid (HK.out.trans (if_pos hq))
          clear hq
          go_wp2
          go_roundw
          case rel => exact ⟨7, by omega, by omega, by go_num, by rw [show 7 - 1 = 6 from rfl, HK2.out]; exact HB.out.set 0 _ _ rfl⟩
          case measure => simp [intOf]
        · have q1 := word_ne _ _ hq
          have HK2 := Lib.hid (HK.out.trans (if_neg hq))
          clear hq
          go_wp2
          go_roundw
          case rel => exact ⟨7, by omega, by omega, by go_num, by rw [show 7 - 1 = 6 from rfl, HK2.out]; exact HB.out⟩
          case measure => simp [intOf]
      · rw [show ((7 : Nat) : Int) = 7 from rfl]
        go_upto_region 6 with fail
        refine Tail.wp_region_class_tail (fun w' => In w w' X g ws ⟨k0, 0, 0, 0, 0, 0, []⟩) 5 (by kernel_rfl) (by kernel_rfl) (HN.out.drewN 1) ?_
        simp only [List.take_succ_cons, List.take_zero, List.drop_succ_cons, List.drop_zero]
        refine wpQuiet_step (fun K hK => ?_)
        refine Tail.class_step (.int .i64 7) (by rfl) (fun wc hwc => ?_) ?_
        · go_simp
        go_simp
        refine hK _ ?_
        clear hK K
        refine wpQuiet_step (fun K hK => ?_)
        refine Tail.class_step (.string ⟨#[115, 116, 111, 112]⟩) (by rfl) (fun wc hwc => ?_) ?_
        · go_simp
          refine (refWord7 _).mono ?_
          rintro e wx ⟨rfl, hb⟩
          exact ⟨rfl, hwc.to hb⟩
        go_simp
        refine hK _ ?_
        clear hK K
        refine wpQuiet_step (fun K hK => ?_)
        refine Tail.class_step (.slice (some ⟨g, 0, none⟩) ws.length cap) (by rfl) (fun wc hwc => ?_) ?_
        · go_simp
        go_simp
        refine hK _ ?_
        clear hK K
        refine wpQuiet_step (fun K hK => ?_)
        refine Tail.class_step (.pointer (some ⟨g, 0, none⟩)) (by rfl) (fun wc hwc => ?_) ?_
        · go_simp
        go_simp
        refine hK _ ?_
        clear hK K
        refine wpQuiet_step (fun K hK => ?_)
        refine Tail.class_step (.string w0) (by rfl) (fun wc hwc => ?_) ?_
        · have c0 := C0.out _ hwc.strs
          go_simp
        go_simp
        refine hK _ ?_
        clear hK K
        refine wpQuiet_nil ?_
        intro wb hwb
        have HB := Lib.hid hwb
        clear hwb HN
        have f0 := HB.out.row.free 0
        have cx := HB.out.row.cell 0 (v := .int .i64 (k0 : Int)) rfl
        by_cases hq : [115, 116, 111, 112] = w0.data.toList
        · have q1 := word_eq _ _ hq
          have HK2 := Lib.hid (HK.out.trans (if_pos hq))
          clear hq
          go_wp2
          go_roundw
          case rel => exact ⟨8, by omega, by omega, by go_num, by rw [show 8 - 1 = 7 from rfl, HK2.out]; exact HB.out.set 0 _ _ rfl⟩
          case measure => simp [intOf]
        · have q1 := word_ne _ _ hq
          have HK2 := Lib.hid (HK.out.trans (if_neg hq))
          clear hq
          go_wp2
          go_roundw
          case rel => exact ⟨8, by omega, by omega, by go_num, by rw [show 8 - 1 = 7 from rfl, HK2.out]; exact HB.out⟩
          case measure => simp [intOf]
      · rw [show ((8 : Nat) : Int) = 8 from rfl]
        go_upto_region 6 with fail
        refine Tail.wp_region_class_tail (fun w' => In w w' X g ws ⟨k0, 0, 0, 0, 0, 0, []⟩) 5 (by kernel_rfl) (by kernel_rfl) (HN.out.drewN 1) ?_
        simp only [List.take_succ_cons, List.take_zero, List.drop_succ_cons, List.drop_zero]
        refine wpQuiet_step (fun K hK => ?_)
        refine Tail.class_step (.int .i64 8) (by rfl) (fun wc hwc => ?_) ?_
        · go_simp
        go_simp
        refine hK _ ?_
        clear hK K
        refine wpQuiet_step (fun K hK => ?_)
        refine Tail.class_step (.string ⟨#[115, 116, 97, 114, 116]⟩) (by rfl) (fun wc hwc => ?_) ?_
        · go_simp
          refine (refWord8 _).mono ?_
          rintro e wx ⟨rfl, hb⟩
          exact ⟨rfl, hwc.to hb⟩
        go_simp
        refine hK _ ?_
        clear hK K
        refine wpQuiet_step (fun K hK => ?_)
        refine Tail.class_step (.slice (some ⟨g, 0, none⟩) ws.length cap) (by rfl) (fun wc hwc => ?_) ?_
        · go_simp
        go_simp
        refine hK _ ?_
        clear hK K
        refine wpQuiet_step (fun K hK => ?_)
        refine Tail.class_step (.pointer (some ⟨g, 0, none⟩)) (by rfl) (fun wc hwc => ?_) ?_
        · go_simp
        go_simp
        refine hK _ ?_
        clear hK K
        refine wpQuiet_step (fun K hK => ?_)
        refine Tail.class_step (.string w0) (by rfl) (fun wc hwc => ?_) ?_
        · have c0 := C0.out _ hwc.strs
          go_simp
        go_simp
        refine hK _ ?_
        clear hK K
        refine wpQuiet_nil ?_
        intro wb hwb
        have HB := Lib.hid hwb
        clear hwb HN
        have f0 := HB.out.row.free 0
        have cx := HB.out.row.cell 0 (v := .int .i64 (k0 : Int)) rfl
        by_cases hq : [115, 116, 97, 114, 116] = w0.data.toList
        · have q1 := word_eq _ _ hq
          have HK2 := Lib.hid (HK.out.trans (if_pos hq))
          clear hq
          go_wp2
          go_roundw
          case rel => exact ⟨9, by omega, by omega, by go_num, by rw [show 9 - 1 = 8 from rfl, HK2.out]; exact HB.out.set 0 _ _ rfl⟩
          case measure => simp [intOf]
        · have q1 := word_ne _ _ hq
          have HK2 := Lib.hid (HK.out.trans (if_neg hq))
          clear hq
          go_wp2
          go_roundw
          case rel => exact ⟨9, by omega, by omega, by go_num, by rw [show 9 - 1 = 8 from rfl, HK2.out]; exact HB.out⟩
          case measure => simp [intOf]
    · obtain rfl : k = 9 := by omega
      have hK : kindUp w0.data.toList 8 = 8 := by have h := hk; rw [← HW.out, HW0.out] at h; exact h
      have HPK := Lib.hid (refSt_K ws w0 rs HW0.out s.data.toList HW.out)
      rw [show 9 - 1 = 8 from rfl, hK] at HN
      rw [hK] at HPK
      clear hlt hk1 hk9 hk hK
      have cx := HN.out.row.cell 0 (v := .int .i64 8) rfl
      go_upto_region 12 with (first | (go_at_call 36; refine (refHas8 _).mono ?_; rintro e w2 ⟨rfl, hb2⟩; have HN2 := Lib.hid (HN.out.to hb2); have cx2 := HN2.out.row.cell 0 (v := .int .i64 8) rfl; clear hb2 cx) | (go_at_call 37; ((with_reducible refine (in5p _).mono ?_); rintro e wz ⟨rfl, rfl⟩)))
      by_cases hl : ws.length = 1
      · have d5 : ((ws.length : Int) != 1) = false := by rw [bne_eq_false_iff_eq]; omega
        have HP := Lib.hid (HPK.out.trans (show refK 8 (lists ws) = some ⟨8, 0, 0, 0, 0, 0, []⟩ by rw [refK, if_pos (by simpa [lists] using hl)]))
        clear hl HPK
        go_upto_region 21 with (first | (go_at_call 37; ((with_reducible refine (in5s _).mono ?_); rintro e wz ⟨rfl, rfl⟩)) | (go_at_call 37; ((with_reducible refine (in5n _).mono ?_); rintro e wz ⟨rfl, rfl⟩)))
        go_upto_region 28 with (first | (go_at_call 37; ((with_reducible refine (in5p _).mono ?_); rintro e wz ⟨rfl, rfl⟩)))
        have cX0 := HN2.out.row.cell 0 (v := .int .i64 8) rfl
        have cX1 := HN2.out.row.cell 1 (v := .int .i64 0) rfl
        have cX2 := HN2.out.row.cell 2 (v := .int .i64 0) rfl
        have cX3 := HN2.out.row.cell 3 (v := .int .i64 0) rfl
        have cX4 := HN2.out.row.cell 4 (v := .int .i64 0) rfl
        have cX5 := HN2.out.row.cell 5 (v := .int .u64 0) rfl
        have cX6 := HN2.out.row.cell 6 (v := .int .u64 0) rfl
        have cX7 := HN2.out.row.cell 7 (v := .string ⟨#[]⟩) rfl
        have fR0 := HN2.out.res.free 0
        have fR1 := HN2.out.res.free 1
        have fR2 := HN2.out.res.free 2
        have fR3 := HN2.out.res.free 3
        have fR4 := HN2.out.res.free 4
        have fR5 := HN2.out.res.free 5
        have fR6 := HN2.out.res.free 6
        have fR7 := HN2.out.res.free 7
        have cR0 := HN2.out.res.cell 0 (v := .int .i64 0) rfl
        have cR1 := HN2.out.res.cell 1 (v := .int .i64 0) rfl
        have cR2 := HN2.out.res.cell 2 (v := .int .i64 0) rfl
        have cR3 := HN2.out.res.cell 3 (v := .int .i64 0) rfl
        have cR4 := HN2.out.res.cell 4 (v := .int .i64 0) rfl
        have cR5 := HN2.out.res.cell 5 (v := .int .u64 0) rfl
        have cR6 := HN2.out.res.cell 6 (v := .int .u64 0) rfl
        have cR7 := HN2.out.res.cell 7 (v := .string ⟨#[]⟩) rfl
        go_region_with (go_at_call 42; refine (refRight8 _).mono ?_; rintro e w9 ⟨rfl, hb9⟩; have HN9 := Lib.hid ((HN2.out.drewN 1).to hb9); have cX0 := HN9.out.row.cell 0 (v := .int .i64 8) rfl; have cX1 := HN9.out.row.cell 1 (v := .int .i64 0) rfl; have cX2 := HN9.out.row.cell 2 (v := .int .i64 0) rfl; have cX3 := HN9.out.row.cell 3 (v := .int .i64 0) rfl; have cX4 := HN9.out.row.cell 4 (v := .int .i64 0) rfl; have cX5 := HN9.out.row.cell 5 (v := .int .u64 0) rfl; have cX6 := HN9.out.row.cell 6 (v := .int .u64 0) rfl; have cX7 := HN9.out.row.cell 7 (v := .string ⟨#[]⟩) rfl; have fR0 := HN9.out.res.free 0; have fR1 := HN9.out.res.free 1; have fR2 := HN9.out.res.free 2; have fR3 := HN9.out.res.free 3; have fR4 := HN9.out.res.free 4; have fR5 := HN9.out.res.free 5; have fR6 := HN9.out.res.free 6; have fR7 := HN9.out.res.free 7; have cR0 := HN9.out.res.cell 0 (v := .int .i64 0) rfl; have cR1 := HN9.out.res.cell 1 (v := .int .i64 0) rfl; have cR2 := HN9.out.res.cell 2 (v := .int .i64 0) rfl; have cR3 := HN9.out.res.cell 3 (v := .int .i64 0) rfl; have cR4 := HN9.out.res.cell 4 (v := .int .i64 0) rfl; have cR5 := HN9.out.res.cell 5 (v := .int .u64 0) rfl; have cR6 := HN9.out.res.cell 6 (v := .int .u64 0) rfl; have cR7 := HN9.out.res.cell 7 (v := .string ⟨#[]⟩) rfl; clear hb9)
        all_goals go_wp2
        all_goals refine bodyPost_ret (v := .tuple #[.agg (stepV ⟨8, 0, 0, 0, 0, 0, []⟩), .bool true]) (results_row_tmp Tryd.results14 _ _ w.heap.size 40 _ (0, 0) _ rfl (res_set8 ⟨8, 0, 0, 0, 0, 0, []⟩ (HN9.out).res).is Tryd.underlying40 rfl (size40 _)) rfl ⟨.inl ⟨_, HP.out, rfl⟩, below_set8 ⟨8, 0, 0, 0, 0, 0, []⟩ (HN9.out).below (Nat.le_refl _)⟩
      · have HP := Lib.hid (HPK.out.trans (show refK 8 (lists ws) = none by rw [refK, if_neg (by simpa [lists] using hl)]))
        have d5 : ((ws.length : Int) != 1) = true := by rw [bne_iff_ne]; omega
        clear hl HPK
        go_wp2_with (first | (refine wpList_load_row rfl 40 (.tmp 5) rfl X rfl 40 _ (0, 0) _ HN2.out.row.is Tryd.underlying40 rfl (size40 _) ?_) | (refine wpList_store_rowTo rfl 40 (.tmp 2) (.tmp 47) rfl rfl w.heap.size (stepV ⟨8, 0, 0, 0, 0, 0, []⟩) rfl rfl 40 (stepV stZ) HN2.out.res.is (size40 _) (old40 _ _) (one40 _) ?_))
        refine bodyPost_ret (v := .tuple #[.agg (stepV ⟨8, 0, 0, 0, 0, 0, []⟩), .bool false]) (results_row_tmp Tryd.results14 _ _ w.heap.size 40 _ (0, 0) _ rfl (HN2.out.res.row (ys := stepV ⟨8, 0, 0, 0, 0, 0, []⟩)).is Tryd.underlying40 rfl (size40 _)) rfl ⟨.inr ⟨HP.out, _, rfl⟩, belowRow HN2.out.below (Nat.le_refl _) _⟩
end Go.Proofs.YtoahfegeeimomaaDoor.RefParse
