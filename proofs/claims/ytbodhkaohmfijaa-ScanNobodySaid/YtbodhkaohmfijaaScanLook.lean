/- (*scan.Scan).Look that finds nothing. Conditions: as stated in each theorem. -/
import Derived.Test.YtbodhkaohmfijaaScanWorld
import Derived.Deep.RegionWith
import Derived.Handy
set_option linter.unusedVariables false
set_option linter.unusedSimpArgs false
namespace Go.Proofs.Ytbodhkaohmfijaa.ScanLook
open Go.RowKit Base ScanDir ScanRow ScanPlain ScanSmall ScanMake ScanWorld
set_option maxRecDepth 100000

def keyZ : Array Value := #[.int .i64 0, .int .i64 0, .int .u64 0]
theorem lookNil (v : Value) (w : World) : Calls Try.prog 9 #[.pointer none, v] w fun e w' => e = .returned (.tuple #[.agg keyZ, .bool false, .bool false]) ∧ Below w.heap.size w w' := by
  unfold keyZ
  go_enter Try.func9, Try.ntmps9
  go_wp2
  go_step3
  go_wp2
  rw [Exit.noGoto_ret]
  exact bodyPost_ret (v := .tuple #[.agg #[.int .i64 0, .int .i64 0, .int .u64 0], .bool false, .bool false]) (by simp [results, Try.results9, go_sem]) rfl ⟨rfl, (Below.refl _ _).alloc (Nat.le_refl _) _⟩
theorem eventNil' (w : World) : Calls Try.prog 16 #[.pointer none, .int .i64 0] w fun e w' => e = .returned (.tuple #[.agg #[.int .i64 0, .int .u64 0, .int .i64 0, .int .i64 0, .int .u64 0, .int .u64 0, .string ⟨#[]⟩, .string ⟨#[]⟩], .bool false]) ∧ w' = w.alloc (.cells #[.int .i64 0, .int .u64 0, .int .i64 0, .int .i64 0, .int .u64 0, .int .u64 0, .string ⟨#[]⟩, .string ⟨#[]⟩] 26) := eventNil w
set_option maxHeartbeats 4000000 in
theorem lookNo (S : Nat) (w : World) (h0 : w.cell? ⟨S, 0, none⟩ = some (.int .i64 0)) (h1 : w.cell? ⟨S, 1, none⟩ = some (.int .i64 0)) : Calls Try.prog 9 #[.pointer (some ⟨S, 0, none⟩), .pointer none] w fun e w' => e = .returned (.tuple #[.agg keyZ, .bool false, .bool false]) ∧ Below w.heap.size w w' := by
  have hS : S < w.heap.size := World.block_lt_of_cell? w _ h0
  unfold keyZ
  go_enter Try.func9, Try.ntmps9
  go_wp2
  go_step3
  go_wp2_with (go_at_call 14; refine (dir0 _).mono ?_; rintro e w1 ⟨rfl, rfl⟩)
  go_region_with (first | (go_at_call 15; refine (sideNil _ _).mono ?_; rintro e w1 ⟨rfl, rfl⟩) | (go_at_call 16; refine (eventNil' _).mono ?_; rintro e w1 ⟨rfl, rfl⟩))
  all_goals go_wp2
  all_goals go_step3
  all_goals go_wp2
  all_goals refine wp_loop_rounds 1 ?_
  all_goals rw [rounds_succ]
  all_goals go_wp2
  all_goals rw [Exit.noGoto_ret]
  all_goals refine bodyPost_ret (v := .tuple #[.agg #[.int .i64 0, .int .i64 0, .int .u64 0], .bool false, .bool false]) (by simp [results, Try.results9, go_sem]) rfl ⟨rfl, ?_⟩
  all_goals go_grown
theorem event0' (L : Nat) (w : World) (h : w.cell? ⟨L, 6, none⟩ = some (.slice none 0 0)) : Calls Try.prog 16 #[.pointer (some ⟨L, 0, none⟩), .int .i64 0] w fun e w' => e = .returned (.tuple #[.agg #[.int .i64 0, .int .u64 0, .int .i64 0, .int .i64 0, .int .u64 0, .int .u64 0, .string ⟨#[]⟩, .string ⟨#[]⟩], .bool false]) ∧ w' = w.alloc (.cells #[.int .i64 0, .int .u64 0, .int .i64 0, .int .i64 0, .int .u64 0, .int .u64 0, .string ⟨#[]⟩, .string ⟨#[]⟩] 26) := event0 L w h
set_option maxHeartbeats 4000000 in
theorem lookMade (S : Nat) (w : World) (h0 : w.cell? ⟨S, 0, none⟩ = some (.int .i64 0)) (h1 : w.cell? ⟨S, 1, none⟩ = some (.int .i64 0)) (W L : Nat) (h2 : w.cell? ⟨W, 0, none⟩ = some (.pointer (some ⟨L, 0, none⟩))) (h3 : w.cell? ⟨L, 6, none⟩ = some (.slice none 0 0)) : Calls Try.prog 9 #[.pointer (some ⟨S, 0, none⟩), .pointer (some ⟨W, 0, none⟩)] w fun e w' => e = .returned (.tuple #[.agg keyZ, .bool false, .bool false]) ∧ Below w.heap.size w w' := by
  have hS : S < w.heap.size := World.block_lt_of_cell? w _ h0
  have hW : W < w.heap.size := World.block_lt_of_cell? w _ h2
  have hL : L < w.heap.size := World.block_lt_of_cell? w _ h3
  unfold keyZ
  go_enter Try.func9, Try.ntmps9
  go_wp2
  go_step3
  go_wp2_with (go_at_call 14; refine (dir0 _).mono ?_; rintro e w1 ⟨rfl, rfl⟩)
  go_region_with (first | (go_at_call 15; refine (side0 W (.pointer (some ⟨L, 0, none⟩)) _ (by go_simp)).mono ?_; rintro e w1 ⟨rfl, rfl⟩) | (go_at_call 16; refine (event0' L _ (by go_simp)).mono ?_; rintro e w1 ⟨rfl, rfl⟩))
  all_goals go_wp2
  all_goals go_step3
  all_goals go_wp2
  all_goals refine wp_loop_rounds 1 ?_
  all_goals rw [rounds_succ]
  all_goals go_wp2
  all_goals rw [Exit.noGoto_ret]
  all_goals refine bodyPost_ret (v := .tuple #[.agg #[.int .i64 0, .int .i64 0, .int .u64 0], .bool false, .bool false]) (by simp [results, Try.results9, go_sem]) rfl ⟨rfl, ?_⟩
  all_goals go_grown
end Go.Proofs.Ytbodhkaohmfijaa.ScanLook
