/- A block of memory that is known whole, and what keeps it; 64 words as an array. Conditions: as stated in each theorem. -/
import Derived.Test.YtoahfegeeimomaaDoorBase
set_option linter.unusedVariables false
set_option linter.unusedSimpArgs false
namespace Go.Proofs.YtoahfegeeimomaaDoor.RowD
open Go.RowKit Base
set_option maxRecDepth 100000

structure Row (w : World) (g : Nat) (xs : Array Value) (T : TypeId) : Prop where
  is : w.heap[g]? = some (.cells xs T (0, 0))
theorem Row.cell {w : World} {g : Nat} {xs : Array Value} {T : TypeId} (h : Row w g xs T) (i : Nat) {v : Value} (hv : xs[i]? = some v) : w.cell? ⟨g, i, none⟩ = some v := (cell_of_block h.is).trans hv
theorem Row.free {w : World} {g : Nat} {xs : Array Value} {T : TypeId} (h : Row w g xs T) (i : Nat) : w.frozen? ⟨g, i, none⟩ = false := free_of_block h.is
theorem Row.lt {w : World} {g : Nat} {xs : Array Value} {T : TypeId} (h : Row w g xs T) : g < w.heap.size := lt_of_block h.is
theorem Row.drew {w : World} {g : Nat} {xs : Array Value} {T : TypeId} (h : Row w g xs T) : Row w.drew g xs T := ⟨h.is⟩
theorem Row.drewN {w : World} {g : Nat} {xs : Array Value} {T : TypeId} (h : Row w g xs T) (n : Nat) : Row (w.drewN n) g xs T := ⟨by rw [drewN_heap]; exact h.is⟩
theorem Row.alloc {w : World} {g : Nat} {xs : Array Value} {T : TypeId} (h : Row w g xs T) (o : Obj) : Row (w.alloc o) g xs T := ⟨block_alloc h.is o⟩
theorem Row.new (w : World) (xs : Array Value) (T : TypeId) : Row (w.alloc (.cells xs T)) w.heap.size xs T := ⟨block_new _ _⟩
theorem Row.set {w : World} {g : Nat} {xs : Array Value} {T : TypeId} (h : Row w g xs T) (i : Nat) (u : Value) : Row (w.setCell ⟨g, i, none⟩ u) g (xs.setIfInBounds i u) T := ⟨block_setCell h.is u⟩
theorem Row.setOther {w : World} {g k : Nat} {xs : Array Value} {T : TypeId} (h : Row w g xs T) (hn : g ≠ k) (i : Nat) (u : Value) : Row (w.setCell ⟨k, i, none⟩ u) g xs T := ⟨block_setCell_other h.is hn u⟩
theorem Row.row {w : World} {g : Nat} {xs ys : Array Value} {T : TypeId} (h : Row w g xs T) : Row (w.setRow g ys) g ys T := ⟨setRow_heap w g xs ys T (0, 0) h.is⟩
theorem Row.rowOther {w : World} {g k : Nat} {xs ys : Array Value} {T : TypeId} (h : Row w g xs T) (hn : g ≠ k) : Row (w.setRow k ys) g xs T := ⟨by rw [setRow_other _ _ _ _ hn]; exact h.is⟩
theorem Row.below {w w' : World} {g : Nat} {xs : Array Value} {T : TypeId} (h : Row w g xs T) (hb : Below w.heap.size w w') : Row w' g xs T := ⟨(hb.block _ h.lt).trans h.is⟩
theorem Row.below' {B : Nat} {w w' : World} {g : Nat} {xs : Array Value} {T : TypeId} (h : Row w g xs T) (hb : Below B w w') (hg : g < B) : Row w' g xs T := ⟨(hb.block _ hg).trans h.is⟩
theorem belowRow {B : Nat} {a w : World} (h : Below B a w) {g : Nat} (hg : B ≤ g) (cs : Array Value) : Below B a (w.setRow g cs) :=
  h.trans ⟨rfl, rfl, rfl, by rw [setRow_size]; exact Nat.le_refl _, fun i hi => setRow_other _ _ _ _ (by omega)⟩
theorem belowSet {B : Nat} {a w : World} (h : Below B a w) {g : Nat} (hg : B ≤ g) (i : Nat) (u : Value) : Below B a (w.setCell ⟨g, i, none⟩ u) := h.setCell hg u
theorem belowDrewN {B : Nat} {a w : World} (h : Below B a w) (n : Nat) : Below B a (w.drewN n) := ⟨h.os, h.tape, h.output, by rw [drewN_heap]; exact h.size, fun i hi => by rw [drewN_heap]; exact h.block i hi⟩
theorem belowDrew {B : Nat} {a w : World} (h : Below B a w) : Below B a w.drew := ⟨h.os, h.tape, h.output, h.size, h.block⟩

end Go.Proofs.YtoahfegeeimomaaDoor.RowD
