/- Small functions of the scan's law, each by a contract of its own. Conditions: as stated in each theorem. -/
import Derived.Test.YtbodhkaohmfijaaScanPlain
import Derived.LoopN
import Derived.Carry
import Derived.Outline
import Derived.Great.Ranges
import Derived.Great.Walk
import Derived.Great.BuildSlice
import Derived.MapKept
set_option linter.unusedVariables false
set_option linter.unusedSimpArgs false
namespace Go.Proofs.Ytbodhkaohmfijaa.ScanSmall
open Go.RowKit Base ScanDir ScanRow ScanPlain Go.Great
set_option maxRecDepth 100000

theorem next (w : World) : Calls Try.prog 5 #[.pointer none] w fun e w' => e = .returned (.tuple #[]) ∧ w' = w := by
  go_enter Try.func5, Try.ntmps5
  go_wp2
  go_end0
  exact ⟨rfl, rfl⟩
theorem reset (w : World) : Calls Try.prog 6 #[.pointer none] w fun e w' => e = .returned (.tuple #[]) ∧ w' = w := by
  go_enter Try.func6, Try.ntmps6
  go_wp2
  go_end0
  exact ⟨rfl, rfl⟩
theorem place (w : World) : Calls Try.prog 11 #[.pointer none] w fun e w' => e = .returned (.int .i64 0) ∧ w' = w := by
  go_enter Try.func11, Try.ntmps11
  go_wp2
  go_ret
  exact ⟨rfl, rfl⟩
/-- the sides of a world that nobody made -/
theorem sideNil (s : Int) (w : World) : Calls Try.prog 15 #[.pointer none, .int .i64 s] w fun e w' => e = .returned (.pointer none) ∧ w' = w := by
  go_enter Try.func15, Try.ntmps15
  go_wp2
  go_ret
  exact ⟨rfl, rfl⟩
theorem sideNone (W : Nat) (w : World) : Calls Try.prog 15 #[.pointer (some ⟨W, 0, none⟩), .int .i64 (-1)] w fun e w' => e = .returned (.pointer none) ∧ w' = w := by
  go_enter Try.func15, Try.ntmps15
  go_wp2
  go_ret
  exact ⟨rfl, rfl⟩
theorem side0 (W : Nat) (L : Value) (w : World) (h : w.cell? ⟨W, 0, none⟩ = some L) : Calls Try.prog 15 #[.pointer (some ⟨W, 0, none⟩), .int .i64 0] w fun e w' => e = .returned L ∧ w' = w := by
  go_enter Try.func15, Try.ntmps15
  go_wp2
  go_ret
  exact ⟨rfl, rfl⟩
theorem side1 (W : Nat) (L : Value) (w : World) (h : w.cell? ⟨W, 1, none⟩ = some L) : Calls Try.prog 15 #[.pointer (some ⟨W, 0, none⟩), .int .i64 1] w fun e w' => e = .returned L ∧ w' = w := by
  go_enter Try.func15, Try.ntmps15
  go_wp2
  go_ret
  exact ⟨rfl, rfl⟩
def evZ : Array Value := #[.int .i64 0, .int .u64 0, .int .i64 0, .int .i64 0, .int .u64 0, .int .u64 0, .string ⟨#[]⟩, .string ⟨#[]⟩]
theorem eventNil (w : World) : Calls Try.prog 16 #[.pointer none, .int .i64 0] w fun e w' => e = .returned (.tuple #[.agg evZ, .bool false]) ∧ w' = w.alloc (.cells evZ 26) := by
  go_enter Try.func16, Try.ntmps16
  go_wp2
  exact bodyPost_ret (v := .tuple #[.agg evZ, .bool false]) (by simp [results, Try.results16, go_sem, evZ]) rfl ⟨rfl, rfl⟩
theorem event0 (L : Nat) (w : World) (h : w.cell? ⟨L, 6, none⟩ = some (.slice none 0 0)) : Calls Try.prog 16 #[.pointer (some ⟨L, 0, none⟩), .int .i64 0] w fun e w' => e = .returned (.tuple #[.agg evZ, .bool false]) ∧ w' = w.alloc (.cells evZ 26) := by
  have hL : L < w.heap.size := World.block_lt_of_cell? w _ h
  go_enter Try.func16, Try.ntmps16
  go_wp2
  exact bodyPost_ret (v := .tuple #[.agg evZ, .bool false]) (by simp [results, Try.results16, go_sem, evZ]) rfl ⟨rfl, rfl⟩
theorem lineNone (L : Nat) (k : Int) (hk : 1 ≤ k) (hk2 : k ≤ 3) (v : Option Addr) (c : Nat) (w : World) (h : w.cell? ⟨L, 5, none⟩ = some (.slice v 1 c)) : Calls Try.prog 19 #[.pointer (some ⟨L, 0, none⟩), .int .i64 k] w fun e w' => e = .returned (.pointer none) ∧ w' = w := by
  go_enter Try.func19, Try.ntmps19
  go_wp2
  go_ret
  exact ⟨rfl, rfl⟩
theorem line0 (L g c : Nat) (N : Value) (w : World) (h : w.cell? ⟨L, 5, none⟩ = some (.slice (some ⟨g, 0, none⟩) 1 c)) (h2 : w.cell? ⟨g, 0, none⟩ = some N) : Calls Try.prog 19 #[.pointer (some ⟨L, 0, none⟩), .int .i64 0] w fun e w' => e = .returned N ∧ w' = w := by
  go_enter Try.func19, Try.ntmps19
  go_wp2
  go_ret
  exact ⟨rfl, rfl⟩
theorem lineNew (s : Int) (hs : s = 0 ∨ s = 1) (w : World) : Calls Try.prog 25 #[.int .i64 0, .int .i64 s, .bool false] w fun e w' => e = .returned (.tuple #[.pointer (some ⟨w.heap.size + 2, 0, none⟩), .int .i64 0]) ∧ w' = ((w.alloc (.map #[] 0)).alloc (.map #[] 0)).alloc (.cells #[.int .i64 0, .int .i64 s, .bool false, .bool false, .int .u64 1, .int .u64 1, .int .u64 1, .map (some w.heap.size), .map (some (w.heap.size + 1))] 89) := by
  have hmm := @run_makeMap Try.prog
  rcases hs with rfl | rfl
  all_goals go_enter Try.func25, Try.ntmps25
  all_goals go_wp2
  all_goals go_ret2
  all_goals exact ⟨rfl, rfl⟩
theorem pool_is : (Try.prog.built 103 [(3, .int .i64 8)]).isSome = true := by kernel_rfl
theorem poolNew (w : World) : Calls Try.prog 24 #[.int .i64 8] w fun e w' => e = .returned (.tuple #[.pointer (some ⟨w.heap.size, 0, none⟩), .int .i64 0]) ∧ Below w.heap.size w w' := by
  obtain ⟨cs, hcs⟩ := Option.isSome_iff_exists.1 pool_is
  have HC := Lib.hid hcs
  clear hcs
  go_enter Try.func24, Try.ntmps24
  go_wp2_with (refine wpList_buildTo rfl 103 #[(3, .tmp 10)] rfl (some 11) rfl cs ?hc ?_; case hc => (simp [Act.eval]; exact HC.out))
  go_ret2
  exact ⟨rfl, (Below.refl _ _).alloc (Nat.le_refl _) _⟩
def sumZ : Array Value := #[.int .u8 0, .int .u8 0, .int .u8 0, .int .u8 0, .int .u8 0, .int .u8 0, .int .u8 0, .int .u8 0, .int .u8 0, .int .u8 0, .int .u8 0, .int .u8 0, .int .u8 0, .int .u8 0, .int .u8 0, .int .u8 0, .int .u8 0, .int .u8 0, .int .u8 0, .int .u8 0, .int .u8 0, .int .u8 0, .int .u8 0, .int .u8 0, .int .u8 0, .int .u8 0, .int .u8 0, .int .u8 0, .int .u8 0, .int .u8 0, .int .u8 0, .int .u8 0]
theorem find_empty (b : Nat) (seq : Int) (w : World) (h : w.heap[b]? = some (.map #[] 0)) : (Instr.lookup 87 (.map (some b)) (.int .u64 seq) true).run Try.prog w = .ok (.tuple #[.agg sumZ, .bool false]) w := by
  have hz : (zeroValue 66).run Try.prog w = .ok (.agg sumZ) w := by kernel_rfl
  have hc : (Instr.checkKey true 10000 22 (.int .u64 seq)).run Try.prog w = .ok () w := MapKept.run_checkKey Try.underlying22 (by simp [MapKept.IsKey]) true 9999
  have hf : (Instr.findKey 22 (.int .u64 seq) []).run Try.prog w = .ok none w := MapKept.run_findKey Try.underlying22 rfl
  simp only [Instr.lookup, Sem.run_bind, run_underlying Try.underlying87, Result.andThen_ok, MapKept.run_getObj_map h, Sem.run_pure]
  simp [hc, hf, hz]
theorem sz1 : (Try.prog.info? 66).map (·.size) = some sumZ.size := by kernel_rfl
theorem sz2 : sumZ.all (·.oneCell') = true := by simp [sumZ, Value.oneCell']
theorem bz : Try.prog.built 66 [] = some sumZ := by kernel_rfl
theorem results_row_tmp {P : Program} {fn : Func} {p u : Tmp} {ty : TypeId} (h : fn.results = #[.cell p ty, .tmp u]) (tmps : Array Value) (w : World) (g : Nat) (t : TypeId) (cs : Array Value) (fr : Nat × Nat) (d : TypeDesc)
    (hp : tmps.getD p undef = .pointer (some ⟨g, 0, none⟩)) (hg : w.heap[g]? = some (.cells cs t fr))
    (hu : P.underlying ty = some d) (hd : (match d with | .struct _ | .array _ _ => true | _ => false) = true) (hi : (P.info? ty).map (·.size) = some cs.size) :
    (results fn tmps).run P w = .ok (.tuple #[.agg cs, tmps.getD u undef]) w := by
  have hp' : tmps[p]?.getD undef = .pointer (some ⟨g, 0, none⟩) := by simpa using hp
  simp [results, h, hp', asAddr, run_loadVar_row w g t ty cs fr d hg hu hd hi]
set_option maxHeartbeats 1000000 in
theorem commitNil (seq : Int) (w : World) : Calls Try.prog 20 #[.pointer none, .int .u64 seq] w fun e w' => e = .returned (.tuple #[.agg sumZ, .bool false]) ∧ Below w.heap.size w w' := by
  go_enter Try.func20, Try.ntmps20
  go_wp2_with (refine wpList_buildTo rfl 66 #[] rfl (some 10) rfl sumZ (by simpa using bz) ?_; go_must (refine wpList_store_rowTo rfl 66 (.tmp 4) (.tmp 10) rfl rfl w.heap.size sumZ rfl rfl 66 _ (heap_alloc_new _ _) sz1 (by as_aux_lemma => kernel_rfl) sz2 ?_))
  exact bodyPost_ret (v := .tuple #[.agg sumZ, .bool false]) (results_row_tmp Try.results20 _ _ w.heap.size 66 _ (0, 0) _ rfl (Row.row (T := 66) (xs := sumZ) (Row.new w _ 66)).is Try.underlying66 rfl sz1) rfl ⟨rfl, belowRow ((Below.refl _ w).alloc (Nat.le_refl _) (.cells _ 66)) (Nat.le_refl _) _⟩
theorem new2 (w : World) (x y : Obj) : ((w.alloc x).alloc y).heap[w.heap.size + 1]? = some y := by
  have := block_new (w.alloc x) y
  rwa [World.size_alloc] at this
theorem new1 (w : World) (x y : Obj) (cs : Array Value) : (((w.alloc x).alloc y).setRow (w.heap.size + 1) cs).heap[w.heap.size]? = some x := by
  rw [setRow_other _ _ _ _ (by omega)]
  exact block_alloc (block_new w x) y
theorem wpList_keep {P : Program} {ops : Array Oper} {rest : List Oper} {Q : Exit → Act → World → Prop} {a : Act} {w wx : World} {g0 g1 : Nat} {c0 c1 cs : Array Value} {T : TypeId}
    (h1 : wx.heap[g1]? = some (.cells c1 T (0, 0))) (h0 : wx.heap[g0]? = some (.cells c0 T (0, 0))) (hb : Below g0 w wx) (hne : g0 < g1)
    (h : ∀ w1 : World, w1.heap[g1]? = some (.cells cs T (0, 0)) → w1.heap[g0]? = some (.cells c0 T (0, 0)) → Below g0 w w1 → wpList P ops Q rest a w1) : wpList P ops Q rest a (wx.setRow g1 cs) :=
  h _ (setRow_heap _ _ _ _ _ _ h1) (by rw [setRow_other _ _ _ _ (by omega)]; exact h0) (belowRow hb (by omega) _)
set_option maxHeartbeats 1000000 in
theorem commit (N b : Nat) (seq : Int) (w : World) (h1 : w.cell? ⟨N, 7, none⟩ = some (.map (some b))) (h2 : w.heap[b]? = some (.map #[] 0)) : Calls Try.prog 20 #[.pointer (some ⟨N, 0, none⟩), .int .u64 seq] w fun e w' => e = .returned (.tuple #[.agg sumZ, .bool false]) ∧ Below w.heap.size w w' := by
  have hN : N < w.heap.size := World.block_lt_of_cell? w _ h1
  have hfind := fun o => find_empty b seq (w.alloc o) (block_alloc h2 _)
  clear h2
  go_enter Try.func20, Try.ntmps20
  go_wp2_with (first
    | (refine wpList_store_rowTo rfl 66 (.tmp 6) (.tmp 18) rfl rfl (w.heap.size + 1) sumZ rfl rfl 66 ?old ?h1 sz1 ?h2 sz2 ?_; go_must (case h1 => exact new2 _ _ _); go_must (case h2 => kernel_rfl); refine wpList_keep (new2 w _ _) (block_alloc (block_new w _) _) (((Below.refl _ w).alloc (Nat.le_refl _) _).alloc (by simp) _) (by omega) ?_; intro w1 R1 R0 HB; have R1 := Lib.hid R1; have R0 := Lib.hid R0; have HB := Lib.hid HB)
    | (refine wpList_load_row rfl 66 (.tmp 6) rfl (w.heap.size + 1) rfl 66 sumZ (0, 0) _ R1.out Try.underlying66 rfl sz1 ?_)
    | (refine wpList_store_rowTo rfl 66 (.tmp 4) (.tmp 20) rfl rfl w.heap.size sumZ rfl rfl 66 _ R0.out sz1 (by kernel_rfl) sz2 ?_))
  exact bodyPost_ret (v := .tuple #[.agg sumZ, .bool false]) (results_row_tmp Try.results20 _ _ w.heap.size 66 _ (0, 0) _ rfl (setRow_heap _ _ _ _ _ _ R0.out) Try.underlying66 rfl sz1) rfl ⟨rfl, belowRow HB.out (Nat.le_refl _) _⟩
/-- an event's cells -/
def evA (k h c f s t : Int) (d a : ByteArray) : Array Value := #[.int .i64 k, .int .u64 h, .int .i64 c, .int .i64 f, .int .u64 s, .int .u64 t, .string d, .string a]
def rightP (c f : Int) (d : ByteArray) : Bool := decide (0 ≤ c) && decide (c < 4) && (decide (f = 0) || decide (f = 1)) && decide (d.size ≤ 64)
set_option maxHeartbeats 1000000 in
theorem packetRight (c f s t : Int) (d : ByteArray) (w : World) :
    Calls Try.prog 27 #[.agg #[.int .i64 c, .int .i64 f, .int .u64 s, .int .u64 t, .string d]] w fun e w' => e = .returned (.bool (rightP c f d)) ∧ Below w.heap.size w w' := by
  have HR := Lib.hid (show rightP c f d = rightP c f d from rfl)
  generalize h : rightP c f d = r at HR ⊢
  have H := Lib.hid h
  clear h HR
  go_enter Try.func27, Try.ntmps27
  go_wp2
  all_goals go_ret
  all_goals refine ⟨?_, (Below.refl _ _).alloc (Nat.le_refl _) _⟩
  all_goals rw [← H.out]
  all_goals simp [rightP, *]
  all_goals omega
end Go.Proofs.Ytbodhkaohmfijaa.ScanSmall
