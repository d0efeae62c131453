/- The reference's Parse at kind 3. Conditions: as stated in each theorem. -/
import Derived.Test.YtoahfegeeimomaaDoorRefBase
import Derived.Deep.RegionWith
import Derived.Deep.Cut
set_option linter.unusedVariables false
set_option linter.unusedSimpArgs false
namespace Go.Proofs.YtoahfegeeimomaaDoor.RefParse
open Go.RowKit Base RowD Number TextP LinesPlain Num LoopsPlain Loops Loops2 Kinds Right RefRight Hex Line Line3 RefWords Split Parse
set_option maxRecDepth 100000
set_option maxHeartbeats 8000000 in
theorem refParse3 (s : ByteArray) (hm : s.size ≤ 300) (hk : kindUp ((splitSp s.data.toList).getD 0 []) 8 = 3) (w : World) : Calls Tryd.prog 14 #[.string s] w fun e w' => RP s.data.toList e ∧ Below w.heap.size w w' := by
  have RR := Lib.hid (Row.new w (stepV stZ) 40)
  have HB := Lib.hid ((Below.refl w.heap.size w).alloc (Nat.le_refl _) (.cells (stepV stZ) 40))
  go_enter Tryd.func14, Tryd.ntmps14
  go_wp2_with fail
  refine (refWords s (by omega) _).mono ?_
  rintro e w1 ⟨g, cap, ws, rfl, hst, hws, hb1, hg1⟩
  have hgs : g < w1.heap.size := by
    cases hws0 : ws with
    | nil => rw [hws0] at hws; exact absurd hws.symm (splitSp_ne _)
    | cons a r => exact World.block_lt_of_cell? w1 _ (hst.cell 0 (by rw [hws0]; simp))
  have hI : In w (w1.alloc (.cells (stepV stZ) 40)) w1.heap.size g ws stZ :=
    ⟨(RR.out.below hb1).alloc _, Row.new w1 _ _, hst.below ((Below.refl _ _).alloc (Nat.le_refl _) _), (bel HB.out hb1 HB.out.size).alloc (bel HB.out hb1 HB.out.size).size _, by have := hb1.size; simp at this; omega, by omega⟩
  have hX : w1.heap.size < (w1.alloc (.cells (stepV stZ) 40)).heap.size := by simp
  have HI := Lib.hid hI
  have HW := Lib.hid hws
  clear hst hb1 hI hws RR HB hg1 hgs
  go_wp2_with (first | (refine wpList_buildTo rfl 40 #[] rfl (some 17) rfl (stepV stZ) (by simpa using built40) ?_) | (refine wpList_store_rowTo rfl 40 (.tmp 5) (.tmp 17) rfl rfl w1.heap.size (stepV stZ) rfl rfl 40 (stepV stZ) HI.out.row.is (size40 _) (old40 _ _) (one40 _) ?_))
  have HI2 := Lib.hid (in_putRow HI.out stZ)
  obtain ⟨w0, rs, hws0⟩ : ∃ a r, ws = a :: r := by
    cases hws0 : ws with
    | nil => have := HW.out; rw [hws0] at this; exact absurd this.symm (splitSp_ne _)
    | cons a r => exact ⟨a, r, rfl⟩
  have HW0 := Lib.hid hws0
  clear hws0 HI hX
  generalize w1.heap.size = X at *
  go_loopw [6] (fun i wr => ∃ k : Nat, 1 ≤ k ∧ k ≤ 9 ∧ i = .int .i64 (k : Int) ∧ In w wr X g ws ⟨kindUp w0.data.toList (k - 1), 0, 0, 0, 0, 0, []⟩) (fun i _ => 10 - (intOf i).toNat)
  case atStart => exact ⟨1, by omega, by omega, rfl, HI2.out⟩
  case round =>
    obtain ⟨k, hk1, hk9, rfl, hin⟩ := hrel
    have HN := Lib.hid hin
    clear hin HI2
    have C0 := Lib.hid (fun w3 (hs3 : Strs w3 g ws) => show w3.cell? ⟨g, 0, none⟩ = some (.string w0) from (hs3.cell 0 (by rw [HW0.out]; simp)).trans (by simp [HW0.out]))
    by_cases hlt : k ≤ 8
    · have hlen : 0 < ws.length := by rw [HW0.out]; simp
      have HK := Lib.hid (show kindUp w0.data.toList k = if wordL k = w0.data.toList then k else kindUp w0.data.toList (k - 1) by
        rw [show kindUp w0.data.toList k = kindUp w0.data.toList ((k - 1) + 1) by rw [show k - 1 + 1 = k by omega], kindUp, show k - 1 + 1 = k by omega])
      generalize kindUp w0.data.toList (k - 1) = k0 at *
      obtain rfl | rfl | rfl | rfl | rfl | rfl | rfl | rfl : k = 1 ∨ k = 2 ∨ k = 3 ∨ k = 4 ∨ k = 5 ∨ k = 6 ∨ k = 7 ∨ k = 8 := by omega
      · rw [show ((1 : Nat) : Int) = 1 from rfl]
        go_upto_region 6 with fail
        refine Tail.wp_region_class_tail (fun w' => In w w' X g ws ⟨k0, 0, 0, 0, 0, 0, []⟩) 5 (by kernel_rfl) (by kernel_rfl) (HN.out.drewN 1) ?_
        simp only [List.take_succ_cons, List.take_zero, List.drop_succ_cons, List.drop_zero]
        refine wpQuiet_step (fun K hK => ?_)
        refine Tail.class_step (.int .i64 1) (by rfl) (fun wc hwc => ?_) ?_
        · go_simp
        go_simp
        refine hK _ ?_
        clear hK K
        refine wpQuiet_step (fun K hK => ?_)
        refine Tail.class_step (.string ⟨#[112, 105, 99, 107]⟩) (by rfl) (fun wc hwc => ?_) ?_
        · go_simp
          refine (refWord1 _).mono ?_
          rintro e wx ⟨rfl, hb⟩
          exact ⟨rfl, hwc.to hb⟩
        go_simp
        refine hK _ ?_
        clear hK K
        refine wpQuiet_step (fun K hK => ?_)
        refine Tail.class_step (.slice (some ⟨g, 0, none⟩) ws.length cap) (by rfl) (fun wc hwc => ?_) ?_
        · go_simp
        go_simp
        refine hK _ ?_
        clear hK K
        refine wpQuiet_step (fun K hK => ?_)
        refine Tail.class_step (.pointer (some ⟨g, 0, none⟩)) (by rfl) (fun wc hwc => ?_) ?_
        · go_simp
        go_simp
        refine hK _ ?_
        clear hK K
        refine wpQuiet_step (fun K hK => ?_)
        refine Tail.class_step (.string w0) (by rfl) (fun wc hwc => ?_) ?_
        · have c0 := C0.out _ hwc.strs
          go_simp
        go_simp
        refine hK _ ?_
        clear hK K
        refine wpQuiet_nil ?_
        intro wb hwb
        have HB := Lib.hid hwb
        clear hwb HN
        have f0 := HB.out.row.free 0
        have cx := HB.out.row.cell 0 (v := .int .i64 (k0 : Int)) rfl
        by_cases hq : [112, 105, 99, 107] = w0.data.toList
        · have q1 := word_eq _ _ hq
          have HK2 := Lib.hid (HK.out.trans (if_pos hq))
          clear hq
          go_wp2
          go_roundw
          case rel => exact ⟨2, by omega, by omega, by go_num, by rw [show 2 - 1 = 1 from rfl, HK2.out]; exact HB.out.set 0 _ _ rfl⟩
          case measure => simp [intOf]
        · have q1 := word_ne _ _ hq
          have HK2 := Lib.hid (HK.out.trans (if_neg hq))
          clear hq
          go_wp2
          go_roundw
          case rel => exact ⟨2, by omega, by omega, by go_num, by rw [show 2 - 1 = 1 from rfl, HK2.out]; exact HB.out⟩
          case measure => simp [intOf]
      · rw [show ((2 : Nat) : Int) = 2 from rfl]
        go_upto_region 6 with fail
        refine Tail.wp_region_class_tail (fun w' => In w w' X g ws ⟨k0, 0, 0, 0, 0, 0, []⟩) 5 (by kernel_rfl) (by kernel_rfl) (HN.out.drewN 1) ?_
        simp only [List.take_succ_cons, List.take_zero, List.drop_succ_cons, List.drop_zero]
        refine wpQuiet_step (fun K hK => ?_)
        refine Tail.class_step (.int .i64 2) (by rfl) (fun wc hwc => ?_) ?_
        · go_simp
        go_simp
        refine hK _ ?_
        clear hK K
        refine wpQuiet_step (fun K hK => ?_)
        refine Tail.class_step (.string ⟨#[116, 105, 99, 107]⟩) (by rfl) (fun wc hwc => ?_) ?_
        · go_simp
          refine (refWord2 _).mono ?_
          rintro e wx ⟨rfl, hb⟩
          exact ⟨rfl, hwc.to hb⟩
        go_simp
        refine hK _ ?_
        clear hK K
        refine wpQuiet_step (fun K hK => ?_)
        refine Tail.class_step (.slice (some ⟨g, 0, none⟩) ws.length cap) (by rfl) (fun wc hwc => ?_) ?_
        · go_simp
        go_simp
        refine hK _ ?_
        clear hK K
        refine wpQuiet_step (fun K hK => ?_)
        refine Tail.class_step (.pointer (some ⟨g, 0, none⟩)) (by rfl) (fun wc hwc => ?_) ?_
        · go_simp
        go_simp
        refine hK _ ?_
        clear hK K
        refine wpQuiet_step (fun K hK => ?_)
        refine Tail.class_step (.string w0) (by rfl) (fun wc hwc => ?_) ?_
        · have c0 := C0.out _ hwc.strs
          go_simp
        go_simp
        refine hK _ ?_
        clear hK K
        refine wpQuiet_nil ?_
        intro wb hwb
        have HB := Lib.hid hwb
        clear hwb HN
        have f0 := HB.out.row.free 0
        have cx := HB.out.row.cell 0 (v := .int .i64 (k0 : Int)) rfl
        by_cases hq : [116, 105, 99, 107] = w0.data.toList
        · have q1 := word_eq _ _ hq
          have HK2 := Lib.hid (HK.out.trans (if_pos hq))
          clear hq
          go_wp2
          go_roundw
          case rel => exact ⟨3, by omega, by omega, by go_num, by rw [show 3 - 1 = 2 from rfl, HK2.out]; exact HB.out.set 0 _ _ rfl⟩
          case measure => simp [intOf]
        · have q1 := word_ne _ _ hq
          have HK2 := Lib.hid (HK.out.trans (if_neg hq))
          clear hq
          go_wp2
          go_roundw
          case rel => exact ⟨3, by omega, by omega, by go_num, by rw [show 3 - 1 = 2 from rfl, HK2.out]; exact HB.out⟩
          case measure => simp [intOf]
      · rw [show ((3 : Nat) : Int) = 3 from rfl]
        go_upto_region 6 with fail
        refine Tail.wp_region_class_tail (fun w' => In w w' X g ws ⟨k0, 0, 0, 0, 0, 0, []⟩) 5 (by kernel_rfl) (by kernel_rfl) (HN.out.drewN 1) ?_
        simp only [List.take_succ_cons, List.take_zero, List.drop_succ_cons, List.drop_zero]
        refine wpQuiet_step (fun K hK => ?_)
        refine Tail.class_step (.int .i64 3) (by rfl) (fun wc hwc => ?_) ?_
        · go_simp
        go_simp
        refine hK _ ?_
        clear hK K
        refine wpQuiet_step (fun K hK => ?_)
        refine Tail.class_step (.string ⟨#[115, 101, 110, 100]⟩) (by rfl) (fun wc hwc => ?_) ?_
        · go_simp
          refine (refWord3 _).mono ?_
          rintro e wx ⟨rfl, hb⟩
          exact ⟨rfl, hwc.to hb⟩
        go_simp
        refine hK _ ?_
        clear hK K
        refine wpQuiet_step (fun K hK => ?_)
        refine Tail.class_step (.slice (some ⟨g, 0, none⟩) ws.length cap) (by rfl) (fun wc hwc => ?_) ?_
        · go_simp
        go_simp
        refine hK _ ?_
        clear hK K
        refine wpQuiet_step (fun K hK => ?_)
        refine Tail.class_step (.pointer (some ⟨g, 0, none⟩)) (by rfl) (fun wc hwc => ?_) ?_
        · go_simp
        go_simp
        refine hK _ ?_
        clear hK K
        refine wpQuiet_step (fun K hK => ?_)
        refine Tail.class_step (.string w0) (by rfl) (fun wc hwc => ?_) ?_
        · have c0 := C0.out _ hwc.strs
          go_simp
        go_simp
        refine hK _ ?_
        clear hK K
        refine wpQuiet_nil ?_
        intro wb hwb
        have HB := Lib.hid hwb
        clear hwb HN
        have f0 := HB.out.row.free 0
        have cx := HB.out.row.cell 0 (v := .int .i64 (k0 : Int)) rfl
        by_cases hq : [115, 101, 110, 100] = w0.data.toList
        · have q1 := word_eq _ _ hq
          have HK2 := Lib.hid (HK.out.trans (if_pos hq))
          clear hq
          go_wp2
          go_roundw
          case rel => exact ⟨4, by omega, by omega, by go_num, by rw [show 4 - 1 = 3 from rfl, HK2.out]; exact HB.out.set 0 _ _ rfl⟩
          case measure => simp [intOf]
        · have q1 := word_ne _ _ hq
          have HK2 := Lib.hid (HK.out.trans (if_neg hq))
          clear hq
          go_wp2
          go_roundw
          case rel => exact ⟨4, by omega, by omega, by go_num, by rw [show 4 - 1 = 3 from rfl, HK2.out]; exact HB.out⟩
          case measure => simp [intOf]
      · rw [show ((4 : Nat) : Int) = 4 from rfl]
        go_upto_region 6 with fail
        refine Tail.wp_region_class_tail (fun w' => In w w' X g ws ⟨k0, 0, 0, 0, 0, 0, []⟩) 5 (by kernel_rfl) (by kernel_rfl) (HN.out.drewN 1) ?_
        simp only [List.take_succ_cons, List.take_zero, List.drop_succ_cons, List.drop_zero]
        refine wpQuiet_step (fun K hK => ?_)
        refine Tail.class_step (.int .i64 4) (by rfl) (fun wc hwc => ?_) ?_
        · go_simp
        go_simp
        refine hK _ ?_
        clear hK K
        refine wpQuiet_step (fun K hK => ?_)
        refine Tail.class_step (.string ⟨#[114, 101, 106, 101, 99, 116]⟩) (by rfl) (fun wc hwc => ?_) ?_
        · go_simp
          refine (refWord4 _).mono ?_
          rintro e wx ⟨rfl, hb⟩
          exact ⟨rfl, hwc.to hb⟩
        go_simp
        refine hK _ ?_
        clear hK K
        refine wpQuiet_step (fun K hK => ?_)
        refine Tail.class_step (.slice (some ⟨g, 0, none⟩) ws.length cap) (by rfl) (fun wc hwc => ?_) ?_
        · go_simp
        go_simp
        refine hK _ ?_
        clear hK K
        refine wpQuiet_step (fun K hK => ?_)
        refine Tail.class_step (.pointer (some ⟨g, 0, none⟩)) (by rfl) (fun wc hwc => ?_) ?_
        · go_simp
        go_simp
        refine hK _ ?_
        clear hK K
        refine wpQuiet_step (fun K hK => ?_)
        refine Tail.class_step (.string w0) (by rfl) (fun wc hwc => ?_) ?_
        · have c0 := C0.out _ hwc.strs
          go_simp
        go_simp
        refine hK _ ?_
        clear hK K
        refine wpQuiet_nil ?_
        intro wb hwb
        have HB := Lib.hid hwb
        clear hwb HN
        have f0 := HB.out.row.free 0
        have cx := HB.out.row.cell 0 (v := .int .i64 (k0 : Int)) rfl
        by_cases hq : [114, 101, 106, 101, 99, 116] = w0.data.toList
        · have q1 := word_eq _ _ hq
          have HK2 := Lib.hid (HK.out.trans (if_pos hq))
          clear hq
          go_wp2
          go_roundw
          case rel => exact ⟨5, by omega, by omega, by go_num, by rw [show 5 - 1 = 4 from rfl, HK2.out]; exact HB.out.set 0 _ _ rfl⟩
          case measure => simp [intOf]
        · have q1 := word_ne _ _ hq
          have HK2 := Lib.hid (HK.out.trans (if_neg hq))
          clear hq
          go_wp2
          go_roundw
          case rel => exact ⟨5, by omega, by omega, by go_num, by rw [show 5 - 1 = 4 from rfl, HK2.out]; exact HB.out⟩
          case measure => simp [intOf]
      · rw [show ((5 : Nat) : Int) = 5 from rfl]
        go_upto_region 6 with fail
        refine Tail.wp_region_class_tail (fun w' => In w w' X g ws ⟨k0, 0, 0, 0, 0, 0, []⟩) 5 (by kernel_rfl) (by kernel_rfl) (HN.out.drewN 1) ?_
        simp only [List.take_succ_cons, List.take_zero, List.drop_succ_cons, List.drop_zero]
        refine wpQuiet_step (fun K hK => ?_)
        refine Tail.class_step (.int .i64 5) (by rfl) (fun wc hwc => ?_) ?_
        · go_simp
        go_simp
        refine hK _ ?_
        clear hK K
        refine wpQuiet_step (fun K hK => ?_)
        refine Tail.class_step (.string ⟨#[99, 114, 97, 115, 104]⟩) (by rfl) (fun wc hwc => ?_) ?_
        · go_simp
          refine (refWord5 _).mono ?_
          rintro e wx ⟨rfl, hb⟩
          exact ⟨rfl, hwc.to hb⟩
        go_simp
        refine hK _ ?_
        clear hK K
        refine wpQuiet_step (fun K hK => ?_)
        refine Tail.class_step (.slice (some ⟨g, 0, none⟩) ws.length cap) (by rfl) (fun wc hwc => ?_) ?_
        · go_simp
        go_simp
        refine hK _ ?_
        clear hK K
        refine wpQuiet_step (fun K hK => ?_)
        refine Tail.class_step (.pointer (some ⟨g, 0, none⟩)) (by rfl) (fun wc hwc => ?_) ?_
        · go_simp
        go_simp
        refine hK _ ?_
        clear hK K
        refine wpQuiet_step (fun K hK => ?_)
        refine Tail.class_step (.string w0) (by rfl) (fun wc hwc => ?_) ?_
        · have c0 := C0.out _ hwc.strs
          go_simp
        go_simp
        refine hK _ ?_
        clear hK K
        refine wpQuiet_nil ?_
        intro wb hwb
        have HB := Lib.hid hwb
        clear hwb HN
        have f0 := HB.out.row.free 0
        have cx := HB.out.row.cell 0 (v := .int .i64 (k0 : Int)) rfl
        by_cases hq : [99, 114, 97, 115, 104] = w0.data.toList
        · have q1 := word_eq _ _ hq
          have HK2 := Lib.hid (HK.out.trans (if_pos hq))
          clear hq
          go_wp2
          go_roundw
          case rel => exact ⟨6, by omega, by omega, by go_num, by rw [show 6 - 1 = 5 from rfl, HK2.out]; exact HB.out.set 0 _ _ rfl⟩
          case measure => simp [intOf]
        · have q1 := word_ne _ _ hq
          have HK2 := Lib.hid (HK.out.trans (if_neg hq))
          clear hq
          go_wp2
          go_roundw
          case rel => exact ⟨6, by omega, by omega, by go_num, by rw [show 6 - 1 = 5 from rfl, HK2.out]; exact HB.out⟩
          case measure => simp [intOf]
      · rw [show ((6 : Nat) : Int) = 6 from rfl]
        go_upto_region 6 with fail
        refine Tail.wp_region_class_tail (fun w' => In w w' X g ws ⟨k0, 0, 0, 0, 0, 0, []⟩) 5 (by kernel_rfl) (by kernel_rfl) (HN.out.drewN 1) ?_
        simp only [List.take_succ_cons, List.take_zero, List.drop_succ_cons, List.drop_zero]
        refine wpQuiet_step (fun K hK => ?_)
        refine Tail.class_step (.int .i64 6) (by rfl) (fun wc hwc => ?_) ?_
        · go_simp
        go_simp
        refine hK _ ?_
        clear hK K
        refine wpQuiet_step (fun K hK => ?_)
        refine Tail.class_step (.string ⟨#[102, 111, 114, 101, 105, 103, 110]⟩) (by rfl) (fun wc hwc => ?_) ?_
        · go_simp
          refine (refWord6 _).mono ?_
          rintro e wx ⟨rfl, hb⟩
          exact ⟨rfl, hwc.to hb⟩
        go_simp
        refine hK _ ?_
        clear hK K
        refine wpQuiet_step (fun K hK => ?_)
        refine Tail.class_step (.slice (some ⟨g, 0, none⟩) ws.length cap) (by rfl) (fun wc hwc => ?_) ?_
        · go_simp
        go_simp
        refine hK _ ?_
        clear hK K
        refine wpQuiet_step (fun K hK => ?_)
        refine Tail.class_step (.pointer (some ⟨g, 0, none⟩)) (by rfl) (fun wc hwc => ?_) ?_
        · go_simp
        go_simp
        refine hK _ ?_
        clear hK K
        refine wpQuiet_step (fun K hK => ?_)
        refine Tail.class_step (.string w0) (by rfl) (fun wc hwc => ?_) ?_
        · have c0 := C0.out _ hwc.strs
          go_simp
        go_simp
        refine hK _ ?_
        clear hK K
        refine wpQuiet_nil ?_
        intro wb hwb
        have HB := Lib.hid hwb
        clear hwb HN
        have f0 := HB.out.row.free 0
        have cx := HB.out.row.cell 0 (v := .int .i64 (k0 : Int)) rfl
        by_cases hq : [102, 111, 114, 101, 105, 103, 110] = w0.data.toList
        · have q1 := word_eq _ _ hq
          have HK2 := Lib.hid (HK.out.trans (if_pos hq))
          clear hq
          go_wp2
          go_roundw
          case rel => exact ⟨7, by omega, by omega, by go_num, by rw [show 7 - 1 = 6 from rfl, HK2.out]; exact HB.out.set 0 _ _ rfl⟩
          case measure => simp [intOf]
        · have q1 := word_ne _ _ hq
          have HK2 := Lib.hid (HK.out.trans (if_neg hq))
          clear hq
          go_wp2
          go_roundw
          case rel => exact ⟨7, by omega, by omega, by go_num, by rw [show 7 - 1 = 6 from rfl, HK2.out]; exact HB.out⟩
          case measure => simp [intOf]
      · rw [show ((7 : Nat) : Int) = 7 from rfl]
        go_upto_region 6 with fail
        refine Tail.wp_region_class_tail (fun w' => In w w' X g ws ⟨k0, 0, 0, 0, 0, 0, []⟩) 5 (by kernel_rfl) (by kernel_rfl) (HN.out.drewN 1) ?_
        simp only [List.take_succ_cons, List.take_zero, List.drop_succ_cons, List.drop_zero]
        refine wpQuiet_step (fun K hK => ?_)
        refine Tail.class_step (.int .i64 7) (by rfl) (fun wc hwc => ?_) ?_
        · go_simp
        go_simp
        refine hK _ ?_
        clear hK K
        refine wpQuiet_step (fun K hK => ?_)
        refine Tail.class_step (.string ⟨#[115, 116, 111, 112]⟩) (by rfl) (fun wc hwc => ?_) ?_
        · go_simp
          refine (refWord7 _).mono ?_
          rintro e wx ⟨rfl, hb⟩
          exact ⟨rfl, hwc.to hb⟩
        go_simp
        refine hK _ ?_
        clear hK K
        refine wpQuiet_step (fun K hK => ?_)
        refine Tail.class_step (.slice (some ⟨g, 0, none⟩) ws.length cap) (by rfl) (fun wc hwc => ?_) ?_
        · go_simp
        go_simp
        refine hK _ ?_
        clear hK K
        refine wpQuiet_step (fun K hK => ?_)
        refine Tail.class_step (.pointer (some ⟨g, 0, none⟩)) (by rfl) (fun wc hwc => ?_) ?_
        · go_simp
        go_simp
        refine hK _ ?_
        clear hK K
        refine wpQuiet_step (fun K hK => ?_)
        refine Tail.class_step (.string w0) (by rfl) (fun wc hwc => ?_) ?_
        · have c0 := C0.out _ hwc.strs
          go_simp
        go_simp
        refine hK _ ?_
        clear hK K
        refine wpQuiet_nil ?_
        intro wb hwb
        have HB := Lib.hid hwb
        clear hwb HN
        have f0 := HB.out.row.free 0
        have cx := HB.out.row.cell 0 (v := .int .i64 (k0 : Int)) rfl
        by_cases hq : [115, 116, 111, 112] = w0.data.toList
        · have q1 := word_eq _ _ hq
          have HK2 := Lib.hid (HK.out.trans (if_pos hq))
          clear hq
          go_wp2
          go_roundw
          case rel => exact ⟨8, by omega, by omega, by go_num, by rw [show 8 - 1 = 7 from rfl, HK2.out]; exact HB.out.set 0 _ _ rfl⟩
          case measure => simp [intOf]
        · have q1 := word_ne _ _ hq
          have HK2 := Lib.hid (HK.out.trans (if_neg hq))
          clear hq
          go_wp2
          go_roundw
          case rel => exact ⟨8, by omega, by omega, by go_num, by rw [show 8 - 1 = 7 from rfl, HK2.out]; exact HB.out⟩
          case measure => simp [intOf]
      · rw [show ((8 : Nat) : Int) = 8 from rfl]
        go_upto_region 6 with fail
        refine Tail.wp_region_class_tail (fun w' => In w w' X g ws ⟨k0, 0, 0, 0, 0, 0, []⟩) 5 (by kernel_rfl) (by kernel_rfl) (HN.out.drewN 1) ?_
        simp only [List.take_succ_cons, List.take_zero, List.drop_succ_cons, List.drop_zero]
        refine wpQuiet_step (fun K hK => ?_)
        refine Tail.class_step (.int .i64 8) (by rfl) (fun wc hwc => ?_) ?_
        · go_simp
        go_simp
        refine hK _ ?_
        clear hK K
        refine wpQuiet_step (fun K hK => ?_)
        refine Tail.class_step (.string ⟨#[115, 116, 97, 114, 116]⟩) (by rfl) (fun wc hwc => ?_) ?_
        · go_simp
          refine (refWord8 _).mono ?_
          rintro e wx ⟨rfl, hb⟩
          exact ⟨rfl, hwc.to hb⟩
        go_simp
        refine hK _ ?_
        clear hK K
        refine wpQuiet_step (fun K hK => ?_)
        refine Tail.class_step (.slice (some ⟨g, 0, none⟩) ws.length cap) (by rfl) (fun wc hwc => ?_) ?_
        · go_simp
        go_simp
        refine hK _ ?_
        clear hK K
        refine wpQuiet_step (fun K hK => ?_)
        refine Tail.class_step (.pointer (some ⟨g, 0, none⟩)) (by rfl) (fun wc hwc => ?_) ?_
        · go_simp
        go_simp
        refine hK _ ?_
        clear hK K
        refine wpQuiet_step (fun K hK => ?_)
        refine Tail.class_step (.string w0) (by rfl) (fun wc hwc => ?_) ?_
        · have c0 := C0.out _ hwc.strs
          go_simp
        go_simp
        refine hK _ ?_
        clear hK K
        refine wpQuiet_nil ?_
        intro wb hwb
        have HB := Lib.hid hwb
        clear hwb HN
        have f0 := HB.out.row.free 0
        have cx := HB.out.row.cell 0 (v := .int .i64 (k0 : Int)) rfl
        by_cases hq : [115, 116, 97, 114, 116] = w0.data.toList
        · have q1 := word_eq _ _ hq
          have HK2 := Lib.hid (HK.out.trans (if_pos hq))
          clear hq
          go_wp2
          go_roundw
          case rel => exact ⟨9, by omega, by omega, by go_num, by rw [show 9 - 1 = 8 from rfl, HK2.out]; exact HB.out.set 0 _ _ rfl⟩
          case measure => simp [intOf]
        · have q1 := word_ne _ _ hq
          have HK2 := Lib.hid (HK.out.trans (if_neg hq))
          clear hq
          go_wp2
          go_roundw
          case rel => exact ⟨9, by omega, by omega, by go_num, by rw [show 9 - 1 = 8 from rfl, HK2.out]; exact HB.out⟩
          case measure => simp [intOf]
    · obtain rfl : k = 9 := by omega
      have hK : kindUp w0.data.toList 8 = 3 := by rw [← hk, ← HW.out, HW0.out]; rfl
      have HPK := Lib.hid (refSt_K ws w0 rs HW0.out s.data.toList HW.out)
      rw [show 9 - 1 = 8 from rfl, hK] at HN
      rw [hK] at HPK
      clear hlt hk1 hk9 hk hK
      have cx := HN.out.row.cell 0 (v := .int .i64 3) rfl
      go_upto_region 12 with (first | (go_at_call 36; refine (refHas3 _).mono ?_; rintro e w2 ⟨rfl, hb2⟩; have HN2 := Lib.hid (HN.out.to hb2); have cx2 := HN2.out.row.cell 0 (v := .int .i64 3) rfl; clear hb2 cx) | (go_at_call 37; ((with_reducible refine (in3p _).mono ?_); rintro e wz ⟨rfl, rfl⟩)))
      by_cases hl : ws.length = 5
      · have d5 : ((ws.length : Int) != 5) = false := by rw [bne_eq_false_iff_eq]; omega
        obtain ⟨w1', w2', w3', w4', rfl⟩ : ∃ a b c d, rs = [a, b, c, d] := by
          have := HW0.out
          subst this
          match rs, hl with
          | [a, b, c, d], _ => exact ⟨a, b, c, d, rfl⟩
        have z1 : w1'.size ≤ 1000 := HN2.out.strs.size w1' (by rw [HW0.out]; simp)
        have C1 := Lib.hid (fun w3 (hs3 : Strs w3 g ws) => show w3.cell? ⟨g, 1, none⟩ = some (.string w1') from (hs3.cell 1 (by omega)).trans (by simp [HW0.out]))
        have i1 : 1 < ws.length := by omega
        have j1 : (1 : Int) < (ws.length : Int) := by omega
        have z2 : w2'.size ≤ 1000 := HN2.out.strs.size w2' (by rw [HW0.out]; simp)
        have C2 := Lib.hid (fun w3 (hs3 : Strs w3 g ws) => show w3.cell? ⟨g, 2, none⟩ = some (.string w2') from (hs3.cell 2 (by omega)).trans (by simp [HW0.out]))
        have i2 : 2 < ws.length := by omega
        have j2 : (2 : Int) < (ws.length : Int) := by omega
        have z3 : w3'.size ≤ 1000 := HN2.out.strs.size w3' (by rw [HW0.out]; simp)
        have C3 := Lib.hid (fun w3 (hs3 : Strs w3 g ws) => show w3.cell? ⟨g, 3, none⟩ = some (.string w3') from (hs3.cell 3 (by omega)).trans (by simp [HW0.out]))
        have i3 : 3 < ws.length := by omega
        have j3 : (3 : Int) < (ws.length : Int) := by omega
        have z4 : w4'.size ≤ 1000 := HN2.out.strs.size w4' (by rw [HW0.out]; simp)
        have C4 := Lib.hid (fun w3 (hs3 : Strs w3 g ws) => show w3.cell? ⟨g, 4, none⟩ = some (.string w4') from (hs3.cell 4 (by omega)).trans (by simp [HW0.out]))
        have i4 : 4 < ws.length := by omega
        have j4 : (4 : Int) < (ws.length : Int) := by omega
        have hl2 : (lists ws).length = 5 := by simpa [lists] using hl
        obtain ⟨va, ba, ha, ha2⟩ := smallT_is (small w1'.data.toList 3)
        obtain ⟨vb, bb, hb, hb2⟩ := smallT_is (small w2'.data.toList 1)
        obtain ⟨vt, bt, ht, ht2⟩ := numT_is (numR w3'.data.toList)
        obtain ⟨vd, bd, hd, hd2⟩ := bytesT_is (bytesR w4'.data.toList)
        have HQ := Lib.hid (HPK.out.trans (ref3_is hl2 (show small ((lists ws).getD 1 []) 3 = (if ba then some va else none) from by rw [HW0.out]; exact ha2) (show small ((lists ws).getD 2 []) 1 = (if bb then some vb else none) from by rw [HW0.out]; exact hb2) (show numR ((lists ws).getD 3 []) = (if bt then some vt else none) from by rw [HW0.out]; exact ht2) (show bytesR ((lists ws).getD 4 []) = (if bd then some vd else none) from by rw [HW0.out]; exact hd2)))
        have SA := Lib.hid (show ∀ w3, Calls Tryd.prog 38 #[.string w1', .int .i64 3] w3 fun e w' => e = .returned (.tuple #[.int .i64 (va : Int), .bool ba]) ∧ w' = w3 from fun w3 => by have h := refSmall w1' z1 3 (by omega) w3; rw [ha] at h; exact h)
        have SB := Lib.hid (show ∀ w3, Calls Tryd.prog 38 #[.string w2', .int .i64 1] w3 fun e w' => e = .returned (.tuple #[.int .i64 (vb : Int), .bool bb]) ∧ w' = w3 from fun w3 => by have h := refSmall w2' z2 1 (by omega) w3; rw [hb] at h; exact h)
        have SN := Lib.hid (show ∀ w3, Calls Tryd.prog 40 #[.string w3'] w3 fun e w' => e = .returned (.tuple #[.int .u64 (vt : Int), .bool bt]) ∧ w' = w3 from fun w3 => by have h := refNumber w3' z3 w3; rw [ht] at h; exact h)
        have SD := Lib.hid (show ∀ w3, Calls Tryd.prog 41 #[.string w4'] w3 fun e w' => e = .returned (.tuple #[.string ⟨vd.toArray⟩, .bool bd]) ∧ Below w3.heap.size w3 w' from fun w3 => by have h := refBytes w4' z4 w3; rw [hd] at h; exact h)
        have HVA := Lib.hid (show ba = true → va ≤ 3 from fun h => (small_is (show small w1'.data.toList 3 = some va by rw [ha2, h]; rfl)).2)
        have HVB := Lib.hid (show bb = true → vb ≤ 1 from fun h => (small_is (show small w2'.data.toList 1 = some vb by rw [hb2, h]; rfl)).2)
        clear ha ha2 hb hb2 ht ht2 hd hd2 HPK hl2 z1 z2 z3 z4
        go_upto_region 23 with (first | (go_at_call 37; ((with_reducible refine (in3s _).mono ?_); rintro e wz ⟨rfl, rfl⟩)) | (go_at_call 37; ((with_reducible refine (in3n _).mono ?_); rintro e wz ⟨rfl, rfl⟩)) | (go_at_call 37; ((with_reducible refine (in3p _).mono ?_); rintro e wz ⟨rfl, rfl⟩)))
        clear hl cx2
        have c1 := C1.out _ HN2.out.strs
        have n3 := HN2.out.row.cell 3 (v := .int .i64 0) rfl
        have m3 := HN2.out.row.free 3
        go_upto_region 24 with (go_at_call 38; ((with_reducible refine (SA.out _).mono ?_); rintro e wq ⟨rfl, rfl⟩))
        have HN3 := Lib.hid (HN2.out.set 3 (.int .i64 (va : Int)) ⟨3, 0, 0, (va : Int), 0, 0, []⟩ rfl)
        clear HN2 c1 n3 m3
        generalize World.setCell _ _ _ = wgHN3 at *
        have c2 := C2.out _ HN3.out.strs
        have n4 := HN3.out.row.cell 4 (v := .int .i64 0) rfl
        have m4 := HN3.out.row.free 4
        go_upto_region 25 with (go_at_call 38; ((with_reducible refine (SB.out _).mono ?_); rintro e wq ⟨rfl, rfl⟩))
        have HN4 := Lib.hid (HN3.out.set 4 (.int .i64 (vb : Int)) ⟨3, 0, 0, (va : Int), (vb : Int), 0, []⟩ rfl)
        clear HN3 c2 n4 m4
        generalize World.setCell _ _ _ = wgHN4 at *
        have c3 := C3.out _ HN4.out.strs
        have n6 := HN4.out.row.cell 6 (v := .int .u64 0) rfl
        have m6 := HN4.out.row.free 6
        go_upto_region 26 with (go_at_call 40; ((with_reducible refine (SN.out _).mono ?_); rintro e wq ⟨rfl, rfl⟩))
        have HN5 := Lib.hid (HN4.out.set 6 (.int .u64 (vt : Int)) ⟨3, 0, 0, (va : Int), (vb : Int), vt, []⟩ rfl)
        clear HN4 c3 n6 m6
        generalize World.setCell _ _ _ = wgHN5 at *
        have c4 := C4.out _ HN5.out.strs
        go_upto_region 27 with (go_at_call 41; refine (SD.out _).mono ?_; rintro e wp ⟨rfl, hbp⟩; have HM := Lib.hid (HN5.out.to hbp); have n7 := HM.out.row.cell 7 (v := .string ⟨#[]⟩) rfl; have m7 := HM.out.row.free 7; clear hbp c4)
        have HN6 := Lib.hid (HM.out.set 7 (.string ⟨vd.toArray⟩) ⟨3, 0, 0, (va : Int), (vb : Int), vt, vd⟩ rfl)
        clear HM HN5 n7 m7
        generalize World.setCell _ _ _ = wgHN6 at *
        go_cut [9] from 113 (fun s9 wr2 => s9 = .bool (ba && bb && bt && bd) ∧ In w wr2 X g ws ⟨3, 0, 0, (va : Int), (vb : Int), vt, vd⟩)
        case first =>
          clear HQ SA SB SN SD HVA HVB
          cases ba <;> cases bb <;> cases bt <;> cases bd <;> (go_wp2; go_meet; exact ⟨rfl, HN6.out⟩)
        obtain ⟨rfl, hin⟩ := hcut
        have HN7 := Lib.hid hin
        clear hin HN6
        cases hall : (ba && bb && bt && bd)
        · have HP := Lib.hid (HQ.out.trans (ref3_no hall))
          clear HQ hall
          go_upto_region 28 with fail
          have cX0 := HN7.out.row.cell 0 (v := .int .i64 3) rfl
          have cX1 := HN7.out.row.cell 1 (v := .int .i64 0) rfl
          have cX2 := HN7.out.row.cell 2 (v := .int .i64 0) rfl
          have cX3 := HN7.out.row.cell 3 (v := .int .i64 (va : Int)) rfl
          have cX4 := HN7.out.row.cell 4 (v := .int .i64 (vb : Int)) rfl
          have cX5 := HN7.out.row.cell 5 (v := .int .u64 0) rfl
          have cX6 := HN7.out.row.cell 6 (v := .int .u64 (vt : Int)) rfl
          have cX7 := HN7.out.row.cell 7 (v := .string ⟨vd.toArray⟩) rfl
          have fR0 := HN7.out.res.free 0
          have fR1 := HN7.out.res.free 1
          have fR2 := HN7.out.res.free 2
          have fR3 := HN7.out.res.free 3
          have fR4 := HN7.out.res.free 4
          have fR5 := HN7.out.res.free 5
          have fR6 := HN7.out.res.free 6
          have fR7 := HN7.out.res.free 7
          have cR0 := HN7.out.res.cell 0 (v := .int .i64 0) rfl
          have cR1 := HN7.out.res.cell 1 (v := .int .i64 0) rfl
          have cR2 := HN7.out.res.cell 2 (v := .int .i64 0) rfl
          have cR3 := HN7.out.res.cell 3 (v := .int .i64 0) rfl
          have cR4 := HN7.out.res.cell 4 (v := .int .i64 0) rfl
          have cR5 := HN7.out.res.cell 5 (v := .int .u64 0) rfl
          have cR6 := HN7.out.res.cell 6 (v := .int .u64 0) rfl
          have cR7 := HN7.out.res.cell 7 (v := .string ⟨#[]⟩) rfl
          go_region_with fail
          all_goals go_wp2
          all_goals refine bodyPost_ret (v := .tuple #[.agg (stepV ⟨3, 0, 0, (va : Int), (vb : Int), vt, vd⟩), .bool false]) (results_row_tmp Tryd.results14 _ _ w.heap.size 40 _ (0, 0) _ rfl (res_set8 ⟨3, 0, 0, (va : Int), (vb : Int), vt, vd⟩ (HN7.out).res).drew.is Tryd.underlying40 rfl (size40 _)) rfl ⟨.inr ⟨HP.out, _, rfl⟩, belowDrew (below_set8 ⟨3, 0, 0, (va : Int), (vb : Int), vt, vd⟩ (HN7.out).below (Nat.le_refl _))⟩
        · obtain ⟨⟨⟨rfl, rfl⟩, rfl⟩, rfl⟩ : ((ba = true ∧ bb = true) ∧ bt = true) ∧ bd = true := by simpa using hall
          by_cases h64 : vd.length ≤ 64
          · have HP := Lib.hid (HQ.out.trans (ref3_yes h64))
            have R3 := Lib.hid (show ∀ w3, Calls Tryd.prog 42 #[.agg #[.int .i64 3, .int .i64 0, .int .i64 0, .int .i64 (va : Int), .int .i64 (vb : Int), .int .u64 0, .int .u64 (vt : Int), .string ⟨vd.toArray⟩]] w3 fun e w' => e = .returned (.bool true) ∧ Below w3.heap.size w3 w' from fun w3 => by have h := refRight3 (va : Int) (vb : Int) (vt : Int) ⟨vd.toArray⟩ w3; rw [rightP_small (HVA.out rfl) (HVB.out rfl), decide_eq_true h64] at h; exact h)
            clear HQ hall h64
            go_upto_region 28 with fail
            have cX0 := HN7.out.row.cell 0 (v := .int .i64 3) rfl
            have cX1 := HN7.out.row.cell 1 (v := .int .i64 0) rfl
            have cX2 := HN7.out.row.cell 2 (v := .int .i64 0) rfl
            have cX3 := HN7.out.row.cell 3 (v := .int .i64 (va : Int)) rfl
            have cX4 := HN7.out.row.cell 4 (v := .int .i64 (vb : Int)) rfl
            have cX5 := HN7.out.row.cell 5 (v := .int .u64 0) rfl
            have cX6 := HN7.out.row.cell 6 (v := .int .u64 (vt : Int)) rfl
            have cX7 := HN7.out.row.cell 7 (v := .string ⟨vd.toArray⟩) rfl
            have fR0 := HN7.out.res.free 0
            have fR1 := HN7.out.res.free 1
            have fR2 := HN7.out.res.free 2
            have fR3 := HN7.out.res.free 3
            have fR4 := HN7.out.res.free 4
            have fR5 := HN7.out.res.free 5
            have fR6 := HN7.out.res.free 6
            have fR7 := HN7.out.res.free 7
            have cR0 := HN7.out.res.cell 0 (v := .int .i64 0) rfl
            have cR1 := HN7.out.res.cell 1 (v := .int .i64 0) rfl
            have cR2 := HN7.out.res.cell 2 (v := .int .i64 0) rfl
            have cR3 := HN7.out.res.cell 3 (v := .int .i64 0) rfl
            have cR4 := HN7.out.res.cell 4 (v := .int .i64 0) rfl
            have cR5 := HN7.out.res.cell 5 (v := .int .u64 0) rfl
            have cR6 := HN7.out.res.cell 6 (v := .int .u64 0) rfl
            have cR7 := HN7.out.res.cell 7 (v := .string ⟨#[]⟩) rfl
            go_region_with (go_at_call 42; refine (R3.out _).mono ?_; rintro e w9 ⟨rfl, hb9⟩; have HN9 := Lib.hid ((HN7.out.drewN 1).to hb9); have cX0 := HN9.out.row.cell 0 (v := .int .i64 3) rfl; have cX1 := HN9.out.row.cell 1 (v := .int .i64 0) rfl; have cX2 := HN9.out.row.cell 2 (v := .int .i64 0) rfl; have cX3 := HN9.out.row.cell 3 (v := .int .i64 (va : Int)) rfl; have cX4 := HN9.out.row.cell 4 (v := .int .i64 (vb : Int)) rfl; have cX5 := HN9.out.row.cell 5 (v := .int .u64 0) rfl; have cX6 := HN9.out.row.cell 6 (v := .int .u64 (vt : Int)) rfl; have cX7 := HN9.out.row.cell 7 (v := .string ⟨vd.toArray⟩) rfl; have fR0 := HN9.out.res.free 0; have fR1 := HN9.out.res.free 1; have fR2 := HN9.out.res.free 2; have fR3 := HN9.out.res.free 3; have fR4 := HN9.out.res.free 4; have fR5 := HN9.out.res.free 5; have fR6 := HN9.out.res.free 6; have fR7 := HN9.out.res.free 7; have cR0 := HN9.out.res.cell 0 (v := .int .i64 0) rfl; have cR1 := HN9.out.res.cell 1 (v := .int .i64 0) rfl; have cR2 := HN9.out.res.cell 2 (v := .int .i64 0) rfl; have cR3 := HN9.out.res.cell 3 (v := .int .i64 0) rfl; have cR4 := HN9.out.res.cell 4 (v := .int .i64 0) rfl; have cR5 := HN9.out.res.cell 5 (v := .int .u64 0) rfl; have cR6 := HN9.out.res.cell 6 (v := .int .u64 0) rfl; have cR7 := HN9.out.res.cell 7 (v := .string ⟨#[]⟩) rfl; clear hb9)
            all_goals go_wp2
            all_goals refine bodyPost_ret (v := .tuple #[.agg (stepV ⟨3, 0, 0, (va : Int), (vb : Int), vt, vd⟩), .bool true]) (results_row_tmp Tryd.results14 _ _ w.heap.size 40 _ (0, 0) _ rfl (res_set8 ⟨3, 0, 0, (va : Int), (vb : Int), vt, vd⟩ (HN9.out).res).is Tryd.underlying40 rfl (size40 _)) rfl ⟨.inl ⟨_, HP.out, rfl⟩, below_set8 ⟨3, 0, 0, (va : Int), (vb : Int), vt, vd⟩ (HN9.out).below (Nat.le_refl _)⟩
          · have HP := Lib.hid (HQ.out.trans (ref3_big h64))
            have R3 := Lib.hid (show ∀ w3, Calls Tryd.prog 42 #[.agg #[.int .i64 3, .int .i64 0, .int .i64 0, .int .i64 (va : Int), .int .i64 (vb : Int), .int .u64 0, .int .u64 (vt : Int), .string ⟨vd.toArray⟩]] w3 fun e w' => e = .returned (.bool false) ∧ Below w3.heap.size w3 w' from fun w3 => by have h := refRight3 (va : Int) (vb : Int) (vt : Int) ⟨vd.toArray⟩ w3; rw [rightP_small (HVA.out rfl) (HVB.out rfl), decide_eq_false h64] at h; exact h)
            clear HQ hall h64
            go_upto_region 28 with fail
            have cX0 := HN7.out.row.cell 0 (v := .int .i64 3) rfl
            have cX1 := HN7.out.row.cell 1 (v := .int .i64 0) rfl
            have cX2 := HN7.out.row.cell 2 (v := .int .i64 0) rfl
            have cX3 := HN7.out.row.cell 3 (v := .int .i64 (va : Int)) rfl
            have cX4 := HN7.out.row.cell 4 (v := .int .i64 (vb : Int)) rfl
            have cX5 := HN7.out.row.cell 5 (v := .int .u64 0) rfl
            have cX6 := HN7.out.row.cell 6 (v := .int .u64 (vt : Int)) rfl
            have cX7 := HN7.out.row.cell 7 (v := .string ⟨vd.toArray⟩) rfl
            have fR0 := HN7.out.res.free 0
            have fR1 := HN7.out.res.free 1
            have fR2 := HN7.out.res.free 2
            have fR3 := HN7.out.res.free 3
            have fR4 := HN7.out.res.free 4
            have fR5 := HN7.out.res.free 5
            have fR6 := HN7.out.res.free 6
            have fR7 := HN7.out.res.free 7
            have cR0 := HN7.out.res.cell 0 (v := .int .i64 0) rfl
            have cR1 := HN7.out.res.cell 1 (v := .int .i64 0) rfl
            have cR2 := HN7.out.res.cell 2 (v := .int .i64 0) rfl
            have cR3 := HN7.out.res.cell 3 (v := .int .i64 0) rfl
            have cR4 := HN7.out.res.cell 4 (v := .int .i64 0) rfl
            have cR5 := HN7.out.res.cell 5 (v := .int .u64 0) rfl
            have cR6 := HN7.out.res.cell 6 (v := .int .u64 0) rfl
            have cR7 := HN7.out.res.cell 7 (v := .string ⟨#[]⟩) rfl
            go_region_with (go_at_call 42; refine (R3.out _).mono ?_; rintro e w9 ⟨rfl, hb9⟩; have HN9 := Lib.hid ((HN7.out.drewN 1).to hb9); have cX0 := HN9.out.row.cell 0 (v := .int .i64 3) rfl; have cX1 := HN9.out.row.cell 1 (v := .int .i64 0) rfl; have cX2 := HN9.out.row.cell 2 (v := .int .i64 0) rfl; have cX3 := HN9.out.row.cell 3 (v := .int .i64 (va : Int)) rfl; have cX4 := HN9.out.row.cell 4 (v := .int .i64 (vb : Int)) rfl; have cX5 := HN9.out.row.cell 5 (v := .int .u64 0) rfl; have cX6 := HN9.out.row.cell 6 (v := .int .u64 (vt : Int)) rfl; have cX7 := HN9.out.row.cell 7 (v := .string ⟨vd.toArray⟩) rfl; have fR0 := HN9.out.res.free 0; have fR1 := HN9.out.res.free 1; have fR2 := HN9.out.res.free 2; have fR3 := HN9.out.res.free 3; have fR4 := HN9.out.res.free 4; have fR5 := HN9.out.res.free 5; have fR6 := HN9.out.res.free 6; have fR7 := HN9.out.res.free 7; have cR0 := HN9.out.res.cell 0 (v := .int .i64 0) rfl; have cR1 := HN9.out.res.cell 1 (v := .int .i64 0) rfl; have cR2 := HN9.out.res.cell 2 (v := .int .i64 0) rfl; have cR3 := HN9.out.res.cell 3 (v := .int .i64 0) rfl; have cR4 := HN9.out.res.cell 4 (v := .int .i64 0) rfl; have cR5 := HN9.out.res.cell 5 (v := .int .u64 0) rfl; have cR6 := HN9.out.res.cell 6 (v := .int .u64 0) rfl; have cR7 := HN9.out.res.cell 7 (v := .string ⟨#[]⟩) rfl; clear hb9)
            all_goals go_wp2
            all_goals refine bodyPost_ret (v := .tuple #[.agg (stepV ⟨3, 0, 0, (va : Int), (vb : Int), vt, vd⟩), .bool false]) (results_row_tmp Tryd.results14 _ _ w.heap.size 40 _ (0, 0) _ rfl (res_set8 ⟨3, 0, 0, (va : Int), (vb : Int), vt, vd⟩ (HN9.out).res).is Tryd.underlying40 rfl (size40 _)) rfl ⟨.inr ⟨HP.out, _, rfl⟩, below_set8 ⟨3, 0, 0, (va : Int), (vb : Int), vt, vd⟩ (HN9.out).below (Nat.le_refl _)⟩
      · have HP := Lib.hid (HPK.out.trans (show refK 3 (lists ws) = none by rw [refK, if_neg (by simpa [lists] using hl)]))
        have d5 : ((ws.length : Int) != 5) = true := by rw [bne_iff_ne]; omega
        clear hl HPK
        go_wp2_with (first | (refine wpList_load_row rfl 40 (.tmp 5) rfl X rfl 40 _ (0, 0) _ HN2.out.row.is Tryd.underlying40 rfl (size40 _) ?_) | (refine wpList_store_rowTo rfl 40 (.tmp 2) (.tmp 47) rfl rfl w.heap.size (stepV ⟨3, 0, 0, 0, 0, 0, []⟩) rfl rfl 40 (stepV stZ) HN2.out.res.is (size40 _) (old40 _ _) (one40 _) ?_))
        refine bodyPost_ret (v := .tuple #[.agg (stepV ⟨3, 0, 0, 0, 0, 0, []⟩), .bool false]) (results_row_tmp Tryd.results14 _ _ w.heap.size 40 _ (0, 0) _ rfl (HN2.out.res.row (ys := stepV ⟨3, 0, 0, 0, 0, 0, []⟩)).is Tryd.underlying40 rfl (size40 _)) rfl ⟨.inr ⟨HP.out, _, rfl⟩, belowRow HN2.out.below (Nat.le_refl _) _⟩
end Go.Proofs.YtoahfegeeimomaaDoor.RefParse
