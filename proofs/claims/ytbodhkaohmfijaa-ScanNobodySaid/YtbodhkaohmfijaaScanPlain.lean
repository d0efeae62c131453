/- conf.Plain at 1, 1. Conditions: as stated in each theorem. -/
import Derived.Test.YtbodhkaohmfijaaScanMake
import Derived.Test.YtbodhkaohmfijaaScanRow
import Derived.Great.BuildSlice
set_option linter.unusedVariables false
set_option linter.unusedSimpArgs false
namespace Go.Proofs.Ytbodhkaohmfijaa.ScanPlain
open Go.RowKit Base ScanDir ScanRow
set_option maxRecDepth 100000

def cfg (v : Value) : Array Value := #[v, .int .i64 1, .int .i64 2, .int .i64 8, .int .i64 8, .int .i64 4, .int .i64 3, .int .i64 2, .int .i64 4, .int .i64 6, .int .i64 0, .int .u64 0]
def cfgZ : Array Value := #[.slice none 0 0, .int .i64 0, .int .i64 0, .int .i64 0, .int .i64 0, .int .i64 0, .int .i64 0, .int .i64 0, .int .i64 0, .int .i64 0, .int .i64 0, .int .u64 0]
theorem own_slice {w : World} {B : Nat} {v : Value} {n : Nat} {xs : List Value} {e : TypeId} (h : w.ownsRow B e 1 v n xs) (hn : 0 < n) : ∃ g cap, v = .slice (some ⟨g, 0, none⟩) n cap ∧ B ≤ g ∧ g < w.heap.size := by
  rcases h.2 with ⟨_, h0⟩ | ⟨g, cap, cur, rfl, hb, hg, _⟩
  · omega
  · exact ⟨g, cap, rfl, hb, lt_of_block hg⟩
def P (w wr : World) (k : Nat) : Prop := ∃ v, Row wr w.heap.size cfgZ 35 ∧ Row wr (w.heap.size + 1) (cfg v) 35 ∧ Below w.heap.size w wr ∧ w.heap.size + 2 ≤ wr.heap.size ∧ (k = 0 → v = .slice none 0 0) ∧ (k = 1 → ∃ g cap, v = .slice (some ⟨g, 0, none⟩) 1 cap ∧ w.heap.size + 1 < g ∧ wr.cell? ⟨g, 0, none⟩ = some (.bool false))
set_option maxHeartbeats 1000000 in
theorem plain (w : World) : Calls Try.prog 8 #[.int .i64 1, .int .i64 1] w fun e w' => ∃ g cap, e = .returned (.agg (cfg (.slice (some ⟨g, 0, none⟩) 1 cap))) ∧ w.heap.size ≤ g ∧ w'.cell? ⟨g, 0, none⟩ = some (.bool false) ∧ Below w.heap.size w w' := by
  obtain ⟨i0, hi, hz0, hz1, hz2⟩ := info_parts (show (Try.prog.info? 4).map (fun i => (i.zero, i.size, i.bytes)) = some (some (.bool false), 1, 1) by kernel_rfl)
  go_enter Try.func8, Try.ntmps8
  go_wp2_with fail
  have HI := Lib.hid hi
  have HZ0 := Lib.hid hz0
  have HZ1 := Lib.hid hz1
  have HZ2 := Lib.hid hz2
  clear hi hz0 hz1 hz2
  go_loopw [12] (fun i wr => ∃ k : Nat, k ≤ 1 ∧ i = .int .i64 k ∧ P w wr k) (fun i _ => 1 - (match i with | .int _ n => n.toNat | _ => 0))
  case atStart =>
    refine ⟨0, by omega, rfl, .slice none 0 0, (Row.new w cfgZ 35).alloc _, ?_, ((Below.refl _ _).alloc (Nat.le_refl _) _).alloc (by simp) _, by simp, fun _ => rfl, fun h => by cases h⟩
    have := Row.new (w.alloc (.cells cfgZ 35)) (cfg (.slice none 0 0)) 35
    rwa [World.size_alloc] at this
  case round =>
    obtain ⟨k, hk, rfl, v, r0, r1, hb, hs, h0, h1⟩ := hrel
    have R0 := Lib.hid r0
    have R1 := Lib.hid r1
    have HB := Lib.hid hb
    clear r0 r1 hb
    by_cases e : k = 0
    · subst e
      obtain rfl := h0 rfl
      clear h0 h1
      have c0 := R1.out.cell 0 (v := .slice none 0 0) rfl
      have f0 := R1.out.free 0
      have HS := Lib.hid hs
      go_wp2_with (at_builtin; go_must (refine wpList_append_one _ rfl (.tmp 16) (.tmp 20) 33 rfl (w.heap.size + 2) 4 i0 (.bool false) 1 Try.underlying33 HI.out HZ0.out HZ1.out HZ2.out rfl (.bool false) rfl _ 0 _ rfl (World.ownsRow_nil _ _ _ _) rfl (by unfold maxLen; omega) (by omega) HS.out ?_); intro v' w1 hown' hgrow _; obtain ⟨g, cap, rfl, hg1, hg2⟩ := own_slice hown' (by omega); have hbw := ((Below.refl _ _).alloc (Nat.le_refl wr.heap.size) (.cells #[.bool false] 4)).grown hgrow (by simp) (fun j hj => by cases hj); have f1 := (R1.out.below hbw).free 0; have c1 := (R1.out.below hbw).cell 0 (v := .slice none 0 0) rfl; have HBW := Lib.hid hbw; clear hbw)
      go_roundw
      case rel =>
        refine ⟨1, by omega, rfl, .slice (some ⟨g, 0, none⟩) 1 cap, (R0.out.below HBW.out).setOther (by omega) _ _, (R1.out.below HBW.out).set 0 _, belowSet (HB.out.trans (HBW.out.mono HB.out.size)) (by omega) _ _, (by simp; omega), (fun h => by cases h), fun _ => ⟨g, cap, rfl, by omega, ?_⟩⟩
        have := hown'.cellAt 0 (by omega)
        exact (World.cell?_of_block (w := w1) (a := ⟨g, 0, none⟩) (Below.heap_setCell _ _ _ _ (by show g ≠ w.heap.size + 1; omega))).trans this
      case measure => simp
    · obtain rfl : k = 1 := by omega
      obtain ⟨g, cap, rfl, hg, hc⟩ := h1 rfl
      have HC := Lib.hid hc
      clear h0 h1 hc
      have hi1 : (Try.prog.info? 35).map (·.size) = some (cfg (.slice (some ⟨g, 0, none⟩) 1 cap)).size := by kernel_rfl
      have hi2 : cfgZ.size = (cfg (.slice (some ⟨g, 0, none⟩) 1 cap)).size := rfl
      have hi3 : (cfg (.slice (some ⟨g, 0, none⟩) 1 cap)).all (·.oneCell') = true := by simp [cfg, Value.oneCell']
      have HI1 := Lib.hid hi1
      have HI2 := Lib.hid hi2
      have HI3 := Lib.hid hi3
      clear hi1 hi2 hi3
      go_wp2_with (first | (refine wpList_load_row rfl 35 _ rfl _ rfl 35 _ _ _ R1.out.is Try.underlying35 rfl HI1.out ?_; go_must (refine wpList_store_rowTo rfl 35 (.tmp 4) (.tmp 24) rfl rfl w.heap.size (cfg (.slice (some ⟨g, 0, none⟩) 1 cap)) rfl rfl 35 cfgZ R0.out.is HI1.out HI2.out HI3.out ?_)))
      have hR := (R0.out).row (ys := cfg (.slice (some ⟨g, 0, none⟩) 1 cap))
      exact bodyPost_ret (v := .agg (cfg (.slice (some ⟨g, 0, none⟩) 1 cap))) (results_cell_row Try.results8 _ _ w.heap.size 35 _ (0, 0) _ rfl hR.is Try.underlying35 rfl (by as_aux_lemma => kernel_rfl)) rfl ⟨_, _, rfl, by omega, (World.cell?_of_block (w := wr) (a := ⟨g, 0, none⟩) (setRow_other _ _ _ _ (by show g ≠ w.heap.size; omega))).trans HC.out, belowRow HB.out (Nat.le_refl _) _⟩
end Go.Proofs.Ytbodhkaohmfijaa.ScanPlain
