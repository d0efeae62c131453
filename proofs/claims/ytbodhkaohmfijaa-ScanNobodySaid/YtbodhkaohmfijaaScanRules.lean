/- conf.rules and its function values, conf.Check at the plain config. Conditions: as stated in each theorem. -/
import Derived.Test.YtbodhkaohmfijaaScanPlain
import Derived.LoopN
import Derived.Laws.EntriesVeiled
import Derived.Great.BuildSlice
set_option linter.unusedVariables false
set_option linter.unusedSimpArgs false
namespace Go.Proofs.Ytbodhkaohmfijaa.ScanRules
open Go.RowKit Base ScanDir ScanRow ScanPlain
set_option maxRecDepth 100000

def rulesA : Array Value := #[.string ⟨#[99, 104, 97, 110, 110, 101, 108, 115]⟩, .func (.func 30) #[] #[], .string ⟨#[97, 99, 99, 111, 117, 110, 116, 115]⟩, .func (.func 31) #[] #[], .string ⟨#[115, 104, 97, 114, 100, 115]⟩, .func (.func 32) #[] #[], .string ⟨#[114, 111, 111, 109]⟩, .func (.func 33) #[] #[], .string ⟨#[112, 111, 111, 108]⟩, .func (.func 34) #[] #[], .string ⟨#[98, 108, 111, 99, 107]⟩, .func (.func 35) #[] #[], .string ⟨#[98, 97, 116, 99, 104]⟩, .func (.func 36) #[] #[], .string ⟨#[116, 120, 115]⟩, .func (.func 37) #[] #[], .string ⟨#[115, 99, 97, 110]⟩, .func (.func 38) #[] #[], .string ⟨#[113, 117, 101, 117, 101]⟩, .func (.func 39) #[] #[], .string ⟨#[119, 97, 105, 116]⟩, .func (.func 40) #[] #[]]
theorem rules (w : World) : Calls Try.prog 28 #[] w fun e w' => e = .returned (.slice (some ⟨w.heap.size, 0, none⟩) 11 11) ∧ w' = w.alloc (.cells rulesA 94) := by
  go_enter Try.func28, Try.ntmps28
  go_wp2
  go_ret
  exact ⟨rfl, rfl⟩
theorem yes (a b c : Int) (h1 : b ≤ a) (h2 : a ≤ c) (w : World) : Calls Try.prog 26 #[.int .i64 a, .int .i64 b, .int .i64 c] w fun e w' => e = .returned (.bool true) ∧ w' = w := by
  refine (within a b c w).mono ?_
  rintro e w' ⟨rfl, rfl⟩
  simp [h1, h2]

theorem rule0 (g : Nat) (c : Nat) (w : World) : Calls Try.prog 30 #[.agg (cfg (.slice (some ⟨g, 0, none⟩) 1 c))] w fun e w' => e = .returned (.bool true) ∧ w' = w.alloc (.cells (cfg (.slice (some ⟨g, 0, none⟩) 1 c)) 35) := by
  unfold cfg
  go_enter Try.func30, Try.ntmps30
  go_wp2_with (go_at_call 26; refine (yes _ _ _ (by decide) (by decide) _).mono ?_; rintro e w1 ⟨rfl, rfl⟩)
  go_ret
  exact ⟨rfl, rfl⟩
theorem rule1 (g : Nat) (c : Nat) (w : World) : Calls Try.prog 31 #[.agg (cfg (.slice (some ⟨g, 0, none⟩) 1 c))] w fun e w' => e = .returned (.bool true) ∧ w' = w.alloc (.cells (cfg (.slice (some ⟨g, 0, none⟩) 1 c)) 35) := by
  unfold cfg
  go_enter Try.func31, Try.ntmps31
  go_wp2_with (go_at_call 26; refine (yes _ _ _ (by decide) (by decide) _).mono ?_; rintro e w1 ⟨rfl, rfl⟩)
  go_ret
  exact ⟨rfl, rfl⟩
theorem rule2 (g : Nat) (c : Nat) (w : World) : Calls Try.prog 32 #[.agg (cfg (.slice (some ⟨g, 0, none⟩) 1 c))] w fun e w' => e = .returned (.bool true) ∧ w' = w.alloc (.cells (cfg (.slice (some ⟨g, 0, none⟩) 1 c)) 35) := by
  unfold cfg
  go_enter Try.func32, Try.ntmps32
  go_wp2_with (go_at_call 26; refine (yes _ _ _ (by decide) (by decide) _).mono ?_; rintro e w1 ⟨rfl, rfl⟩)
  go_ret
  exact ⟨rfl, rfl⟩
theorem rule3 (g : Nat) (c : Nat) (w : World) : Calls Try.prog 33 #[.agg (cfg (.slice (some ⟨g, 0, none⟩) 1 c))] w fun e w' => e = .returned (.bool true) ∧ w' = w.alloc (.cells (cfg (.slice (some ⟨g, 0, none⟩) 1 c)) 35) := by
  unfold cfg
  go_enter Try.func33, Try.ntmps33
  go_wp2_with (go_at_call 26; refine (yes _ _ _ (by decide) (by decide) _).mono ?_; rintro e w1 ⟨rfl, rfl⟩)
  go_ret
  exact ⟨rfl, rfl⟩
theorem rule4 (g : Nat) (c : Nat) (w : World) : Calls Try.prog 34 #[.agg (cfg (.slice (some ⟨g, 0, none⟩) 1 c))] w fun e w' => e = .returned (.bool true) ∧ w' = w.alloc (.cells (cfg (.slice (some ⟨g, 0, none⟩) 1 c)) 35) := by
  unfold cfg
  go_enter Try.func34, Try.ntmps34
  go_wp2_with (go_at_call 26; refine (yes _ _ _ (by decide) (by decide) _).mono ?_; rintro e w1 ⟨rfl, rfl⟩)
  go_ret
  exact ⟨rfl, rfl⟩
theorem rule5 (g : Nat) (c : Nat) (w : World) : Calls Try.prog 35 #[.agg (cfg (.slice (some ⟨g, 0, none⟩) 1 c))] w fun e w' => e = .returned (.bool true) ∧ w' = w.alloc (.cells (cfg (.slice (some ⟨g, 0, none⟩) 1 c)) 35) := by
  unfold cfg
  go_enter Try.func35, Try.ntmps35
  go_wp2_with (go_at_call 26; refine (yes _ _ _ (by decide) (by decide) _).mono ?_; rintro e w1 ⟨rfl, rfl⟩)
  go_ret
  exact ⟨rfl, rfl⟩
theorem rule6 (g : Nat) (c : Nat) (w : World) : Calls Try.prog 36 #[.agg (cfg (.slice (some ⟨g, 0, none⟩) 1 c))] w fun e w' => e = .returned (.bool true) ∧ w' = w.alloc (.cells (cfg (.slice (some ⟨g, 0, none⟩) 1 c)) 35) := by
  unfold cfg
  go_enter Try.func36, Try.ntmps36
  go_wp2_with (go_at_call 26; refine (yes _ _ _ (by decide) (by decide) _).mono ?_; rintro e w1 ⟨rfl, rfl⟩)
  go_ret
  exact ⟨rfl, rfl⟩
theorem rule7 (g : Nat) (c : Nat) (w : World) : Calls Try.prog 37 #[.agg (cfg (.slice (some ⟨g, 0, none⟩) 1 c))] w fun e w' => e = .returned (.bool true) ∧ w' = w.alloc (.cells (cfg (.slice (some ⟨g, 0, none⟩) 1 c)) 35) := by
  unfold cfg
  go_enter Try.func37, Try.ntmps37
  go_wp2_with (go_at_call 26; refine (yes _ _ _ (by decide) (by decide) _).mono ?_; rintro e w1 ⟨rfl, rfl⟩)
  go_ret
  exact ⟨rfl, rfl⟩
theorem rule8 (g : Nat) (c : Nat) (w : World) : Calls Try.prog 38 #[.agg (cfg (.slice (some ⟨g, 0, none⟩) 1 c))] w fun e w' => e = .returned (.bool true) ∧ w' = w.alloc (.cells (cfg (.slice (some ⟨g, 0, none⟩) 1 c)) 35) := by
  unfold cfg
  go_enter Try.func38, Try.ntmps38
  go_wp2_with (go_at_call 26; refine (yes _ _ _ (by decide) (by decide) _).mono ?_; rintro e w1 ⟨rfl, rfl⟩)
  go_ret
  exact ⟨rfl, rfl⟩
theorem rule9 (g : Nat) (c : Nat) (w : World) : Calls Try.prog 39 #[.agg (cfg (.slice (some ⟨g, 0, none⟩) 1 c))] w fun e w' => e = .returned (.bool true) ∧ w' = w.alloc (.cells (cfg (.slice (some ⟨g, 0, none⟩) 1 c)) 35) := by
  unfold cfg
  go_enter Try.func39, Try.ntmps39
  go_wp2_with (go_at_call 26; refine (yes _ _ _ (by decide) (by decide) _).mono ?_; rintro e w1 ⟨rfl, rfl⟩)
  go_ret
  exact ⟨rfl, rfl⟩
theorem rule10 (g : Nat) (c : Nat) (w : World) : Calls Try.prog 40 #[.agg (cfg (.slice (some ⟨g, 0, none⟩) 1 c))] w fun e w' => e = .returned (.bool true) ∧ w' = w.alloc (.cells (cfg (.slice (some ⟨g, 0, none⟩) 1 c)) 35) := by
  unfold cfg
  go_enter Try.func40, Try.ntmps40
  go_wp2_with (go_at_call 26; refine (yes _ _ _ (by decide) (by decide) _).mono ?_; rintro e w1 ⟨rfl, rfl⟩)
  go_ret
  exact ⟨rfl, rfl⟩

def InC (g c : Nat) (w wr : World) : Prop := Row wr w.heap.size (cfg (.slice (some ⟨g, 0, none⟩) 1 c)) 35 ∧ Row wr (w.heap.size + 1) rulesA 94 ∧ Below w.heap.size w wr
theorem InC.lt {g c : Nat} {w wr : World} (h : InC g c w wr) : w.heap.size + 1 < wr.heap.size := h.2.1.lt
theorem InC.two {g c : Nat} {w wr : World} (h : InC g c w wr) (o p : Obj) : InC g c w ((wr.alloc o).alloc p) :=
  ⟨(h.1.alloc o).alloc p, (h.2.1.alloc o).alloc p, (h.2.2.alloc h.2.2.size o).alloc (by have := h.2.2.size; simp; omega) p⟩

set_option maxHeartbeats 4000000 in
theorem check (g c : Nat) (w : World) : Calls Try.prog 22 #[.agg (cfg (.slice (some ⟨g, 0, none⟩) 1 c))] w fun e w' => e = .returned (.tuple #[.string ⟨#[]⟩, .int .i64 0]) ∧ Below w.heap.size w w' := by
  go_enter Try.func22, Try.ntmps22
  go_wp2_with (go_at_call 28; refine (rules _).mono ?_; rintro e w1 ⟨rfl, rfl⟩)
  go_loopw [8] (fun i wr => ∃ k : Nat, k ≤ 11 ∧ i = .int .i64 k ∧ InC g c w wr) (fun i _ => 11 - (intOf i).toNat)
  case atStart =>
    refine ⟨0, by omega, rfl, (Row.new w _ 35).alloc _, ?_, ((Below.refl _ _).alloc (Nat.le_refl _) _).alloc (by simp) _⟩
    have := Row.new (w.alloc (.cells (cfg (.slice (some ⟨g, 0, none⟩) 1 c)) 35)) rulesA 94
    rwa [World.size_alloc] at this
  case round =>
    obtain ⟨k, hk, rfl, hi⟩ := hrel
    have HI := Lib.hid hi
    clear hi
    by_cases hlt : k < 11
    · have hsz := HI.out.lt
      have HSZ := Lib.hid hsz
      obtain rfl | rfl | rfl | rfl | rfl | rfl | rfl | rfl | rfl | rfl | rfl : k = 0 ∨ k = 1 ∨ k = 2 ∨ k = 3 ∨ k = 4 ∨ k = 5 ∨ k = 6 ∨ k = 7 ∨ k = 8 ∨ k = 9 ∨ k = 10 := by omega
      · have c1 := HI.out.2.1.cell 0 (v := .string ⟨#[99, 104, 97, 110, 110, 101, 108, 115]⟩) rfl
        have c2 := HI.out.2.1.cell 1 (v := .func (.func 30) #[] #[]) rfl
        go_wp2_with (first | (go_at_call 30; refine (rule0 _ _ _).mono ?_; rintro e w1 ⟨rfl, rfl⟩) | (refine wpList_load_row rfl 35 _ rfl _ rfl 35 _ _ _ (HI.out.1.alloc _).is Try.underlying35 rfl (by as_aux_lemma => kernel_rfl) ?_))
        go_roundw
        case rel => exact ⟨1, by omega, by go_num, HI.out.two _ _⟩
        case measure => simp [intOf]
      · have c1 := HI.out.2.1.cell 2 (v := .string ⟨#[97, 99, 99, 111, 117, 110, 116, 115]⟩) rfl
        have c2 := HI.out.2.1.cell 3 (v := .func (.func 31) #[] #[]) rfl
        go_wp2_with (first | (go_at_call 31; refine (rule1 _ _ _).mono ?_; rintro e w1 ⟨rfl, rfl⟩) | (refine wpList_load_row rfl 35 _ rfl _ rfl 35 _ _ _ (HI.out.1.alloc _).is Try.underlying35 rfl (by as_aux_lemma => kernel_rfl) ?_))
        go_roundw
        case rel => exact ⟨2, by omega, by go_num, HI.out.two _ _⟩
        case measure => simp [intOf]
      · have c1 := HI.out.2.1.cell 4 (v := .string ⟨#[115, 104, 97, 114, 100, 115]⟩) rfl
        have c2 := HI.out.2.1.cell 5 (v := .func (.func 32) #[] #[]) rfl
        go_wp2_with (first | (go_at_call 32; refine (rule2 _ _ _).mono ?_; rintro e w1 ⟨rfl, rfl⟩) | (refine wpList_load_row rfl 35 _ rfl _ rfl 35 _ _ _ (HI.out.1.alloc _).is Try.underlying35 rfl (by as_aux_lemma => kernel_rfl) ?_))
        go_roundw
        case rel => exact ⟨3, by omega, by go_num, HI.out.two _ _⟩
        case measure => simp [intOf]
      · have c1 := HI.out.2.1.cell 6 (v := .string ⟨#[114, 111, 111, 109]⟩) rfl
        have c2 := HI.out.2.1.cell 7 (v := .func (.func 33) #[] #[]) rfl
        go_wp2_with (first | (go_at_call 33; refine (rule3 _ _ _).mono ?_; rintro e w1 ⟨rfl, rfl⟩) | (refine wpList_load_row rfl 35 _ rfl _ rfl 35 _ _ _ (HI.out.1.alloc _).is Try.underlying35 rfl (by as_aux_lemma => kernel_rfl) ?_))
        go_roundw
        case rel => exact ⟨4, by omega, by go_num, HI.out.two _ _⟩
        case measure => simp [intOf]
      · have c1 := HI.out.2.1.cell 8 (v := .string ⟨#[112, 111, 111, 108]⟩) rfl
        have c2 := HI.out.2.1.cell 9 (v := .func (.func 34) #[] #[]) rfl
        go_wp2_with (first | (go_at_call 34; refine (rule4 _ _ _).mono ?_; rintro e w1 ⟨rfl, rfl⟩) | (refine wpList_load_row rfl 35 _ rfl _ rfl 35 _ _ _ (HI.out.1.alloc _).is Try.underlying35 rfl (by as_aux_lemma => kernel_rfl) ?_))
        go_roundw
        case rel => exact ⟨5, by omega, by go_num, HI.out.two _ _⟩
        case measure => simp [intOf]
      · have c1 := HI.out.2.1.cell 10 (v := .string ⟨#[98, 108, 111, 99, 107]⟩) rfl
        have c2 := HI.out.2.1.cell 11 (v := .func (.func 35) #[] #[]) rfl
        go_wp2_with (first | (go_at_call 35; refine (rule5 _ _ _).mono ?_; rintro e w1 ⟨rfl, rfl⟩) | (refine wpList_load_row rfl 35 _ rfl _ rfl 35 _ _ _ (HI.out.1.alloc _).is Try.underlying35 rfl (by as_aux_lemma => kernel_rfl) ?_))
        go_roundw
        case rel => exact ⟨6, by omega, by go_num, HI.out.two _ _⟩
        case measure => simp [intOf]
      · have c1 := HI.out.2.1.cell 12 (v := .string ⟨#[98, 97, 116, 99, 104]⟩) rfl
        have c2 := HI.out.2.1.cell 13 (v := .func (.func 36) #[] #[]) rfl
        go_wp2_with (first | (go_at_call 36; refine (rule6 _ _ _).mono ?_; rintro e w1 ⟨rfl, rfl⟩) | (refine wpList_load_row rfl 35 _ rfl _ rfl 35 _ _ _ (HI.out.1.alloc _).is Try.underlying35 rfl (by as_aux_lemma => kernel_rfl) ?_))
        go_roundw
        case rel => exact ⟨7, by omega, by go_num, HI.out.two _ _⟩
        case measure => simp [intOf]
      · have c1 := HI.out.2.1.cell 14 (v := .string ⟨#[116, 120, 115]⟩) rfl
        have c2 := HI.out.2.1.cell 15 (v := .func (.func 37) #[] #[]) rfl
        go_wp2_with (first | (go_at_call 37; refine (rule7 _ _ _).mono ?_; rintro e w1 ⟨rfl, rfl⟩) | (refine wpList_load_row rfl 35 _ rfl _ rfl 35 _ _ _ (HI.out.1.alloc _).is Try.underlying35 rfl (by as_aux_lemma => kernel_rfl) ?_))
        go_roundw
        case rel => exact ⟨8, by omega, by go_num, HI.out.two _ _⟩
        case measure => simp [intOf]
      · have c1 := HI.out.2.1.cell 16 (v := .string ⟨#[115, 99, 97, 110]⟩) rfl
        have c2 := HI.out.2.1.cell 17 (v := .func (.func 38) #[] #[]) rfl
        go_wp2_with (first | (go_at_call 38; refine (rule8 _ _ _).mono ?_; rintro e w1 ⟨rfl, rfl⟩) | (refine wpList_load_row rfl 35 _ rfl _ rfl 35 _ _ _ (HI.out.1.alloc _).is Try.underlying35 rfl (by as_aux_lemma => kernel_rfl) ?_))
        go_roundw
        case rel => exact ⟨9, by omega, by go_num, HI.out.two _ _⟩
        case measure => simp [intOf]
      · have c1 := HI.out.2.1.cell 18 (v := .string ⟨#[113, 117, 101, 117, 101]⟩) rfl
        have c2 := HI.out.2.1.cell 19 (v := .func (.func 39) #[] #[]) rfl
        go_wp2_with (first | (go_at_call 39; refine (rule9 _ _ _).mono ?_; rintro e w1 ⟨rfl, rfl⟩) | (refine wpList_load_row rfl 35 _ rfl _ rfl 35 _ _ _ (HI.out.1.alloc _).is Try.underlying35 rfl (by as_aux_lemma => kernel_rfl) ?_))
        go_roundw
        case rel => exact ⟨10, by omega, by go_num, HI.out.two _ _⟩
        case measure => simp [intOf]
      · have c1 := HI.out.2.1.cell 20 (v := .string ⟨#[119, 97, 105, 116]⟩) rfl
        have c2 := HI.out.2.1.cell 21 (v := .func (.func 40) #[] #[]) rfl
        go_wp2_with (first | (go_at_call 40; refine (rule10 _ _ _).mono ?_; rintro e w1 ⟨rfl, rfl⟩) | (refine wpList_load_row rfl 35 _ rfl _ rfl 35 _ _ _ (HI.out.1.alloc _).is Try.underlying35 rfl (by as_aux_lemma => kernel_rfl) ?_))
        go_roundw
        case rel => exact ⟨11, by omega, by go_num, HI.out.two _ _⟩
        case measure => simp [intOf]
    · obtain rfl : k = 11 := by omega
      go_wp2
      go_ret2
      exact ⟨rfl, HI.out.2.2⟩
end Go.Proofs.Ytbodhkaohmfijaa.ScanRules
