/- A block of memory that is known whole, and what keeps it; 64 words as an array. Conditions: as stated in each theorem. -/
import Derived.Test.YtclpjmhanhocoaaShaTab
set_option linter.unusedVariables false
set_option linter.unusedSimpArgs false
namespace Go.Proofs.Ytclpjmhanhocoaa.ShaRow
open Go.RowKit Base Sha ShaRot ShaTab
set_option maxRecDepth 100000

structure Row (w : World) (g : Nat) (xs : Array Value) (T : TypeId) : Prop where
  is : w.heap[g]? = some (.cells xs T (0, 0))
theorem Row.cell {w : World} {g : Nat} {xs : Array Value} {T : TypeId} (h : Row w g xs T) (i : Nat) {v : Value} (hv : xs[i]? = some v) : w.cell? ⟨g, i, none⟩ = some v := (cell_of_block h.is).trans hv
theorem Row.free {w : World} {g : Nat} {xs : Array Value} {T : TypeId} (h : Row w g xs T) (i : Nat) : w.frozen? ⟨g, i, none⟩ = false := free_of_block h.is
theorem Row.lt {w : World} {g : Nat} {xs : Array Value} {T : TypeId} (h : Row w g xs T) : g < w.heap.size := lt_of_block h.is
theorem Row.drew {w : World} {g : Nat} {xs : Array Value} {T : TypeId} (h : Row w g xs T) : Row w.drew g xs T := ⟨h.is⟩
theorem Row.drewN {w : World} {g : Nat} {xs : Array Value} {T : TypeId} (h : Row w g xs T) (n : Nat) : Row (w.drewN n) g xs T := ⟨by rw [drewN_heap]; exact h.is⟩
theorem Row.alloc {w : World} {g : Nat} {xs : Array Value} {T : TypeId} (h : Row w g xs T) (o : Obj) : Row (w.alloc o) g xs T := ⟨block_alloc h.is o⟩
theorem Row.new (w : World) (xs : Array Value) (T : TypeId) : Row (w.alloc (.cells xs T)) w.heap.size xs T := ⟨block_new _ _⟩
theorem Row.set {w : World} {g : Nat} {xs : Array Value} {T : TypeId} (h : Row w g xs T) (i : Nat) (u : Value) : Row (w.setCell ⟨g, i, none⟩ u) g (xs.setIfInBounds i u) T := ⟨block_setCell h.is u⟩
theorem Row.setOther {w : World} {g k : Nat} {xs : Array Value} {T : TypeId} (h : Row w g xs T) (hn : g ≠ k) (i : Nat) (u : Value) : Row (w.setCell ⟨k, i, none⟩ u) g xs T := ⟨block_setCell_other h.is hn u⟩
theorem Row.row {w : World} {g : Nat} {xs ys : Array Value} {T : TypeId} (h : Row w g xs T) : Row (w.setRow g ys) g ys T := ⟨setRow_heap w g xs ys T (0, 0) h.is⟩
theorem Row.rowOther {w : World} {g k : Nat} {xs ys : Array Value} {T : TypeId} (h : Row w g xs T) (hn : g ≠ k) : Row (w.setRow k ys) g xs T := ⟨by rw [setRow_other _ _ _ _ hn]; exact h.is⟩
theorem Row.below {w w' : World} {g : Nat} {xs : Array Value} {T : TypeId} (h : Row w g xs T) (hb : Below w.heap.size w w') : Row w' g xs T := ⟨(hb.block _ h.lt).trans h.is⟩
theorem Row.below' {B : Nat} {w w' : World} {g : Nat} {xs : Array Value} {T : TypeId} (h : Row w g xs T) (hb : Below B w w') (hg : g < B) : Row w' g xs T := ⟨(hb.block _ hg).trans h.is⟩
theorem belowRow {B : Nat} {a w : World} (h : Below B a w) {g : Nat} (hg : B ≤ g) (cs : Array Value) : Below B a (w.setRow g cs) :=
  h.trans ⟨rfl, rfl, rfl, by rw [setRow_size]; exact Nat.le_refl _, fun i hi => setRow_other _ _ _ _ (by omega)⟩
theorem belowSet {B : Nat} {a w : World} (h : Below B a w) {g : Nat} (hg : B ≤ g) (i : Nat) (u : Value) : Below B a (w.setCell ⟨g, i, none⟩ u) := h.setCell hg u
theorem belowDrewN {B : Nat} {a w : World} (h : Below B a w) (n : Nat) : Below B a (w.drewN n) := ⟨h.os, h.tape, h.output, by rw [drewN_heap]; exact h.size, fun i hi => by rw [drewN_heap]; exact h.block i hi⟩
theorem belowDrew {B : Nat} {a w : World} (h : Below B a w) : Below B a w.drew := ⟨h.os, h.tape, h.output, h.size, h.block⟩

def arrT (l : List Nat) : Array Value := ((List.range 64).map fun i => Value.int .u32 (l.getD i 0 : Nat)).toArray
theorem arrT_size (l : List Nat) : (arrT l).size = 64 := by simp [arrT]
theorem arrT_at (l : List Nat) (i : Nat) (h : i < 64) : (arrT l)[i]? = some (.int .u32 (l.getD i 0 : Nat)) := by
  simp [arrT, List.getElem?_range, h]
theorem arrT_nil : arrT [] = Z64 := by
  simp [arrT, Z64, List.range, List.range.loop]
theorem arrT_set (l : List Nat) (v : Nat) (h : l.length < 64) : (arrT l).setIfInBounds l.length (.int .u32 (v : Nat)) = arrT (l ++ [v]) := by
  apply Array.ext_getElem?
  intro i
  rw [Array.getElem?_setIfInBounds, arrT_size]
  by_cases hi : i < 64
  · rw [arrT_at _ i hi, arrT_at _ i hi]
    by_cases e : l.length = i
    · rw [if_pos e, if_pos (by omega)]
      simp [List.getD_eq_getElem?_getD, ← e]
    · rw [if_neg e]
      by_cases e2 : i < l.length
      · simp [List.getD_eq_getElem?_getD, List.getElem?_append_left e2]
      · rw [List.getD_eq_getElem?_getD, List.getD_eq_getElem?_getD, List.getElem?_eq_none (by omega), List.getElem?_eq_none (by simp; omega)]
  · rw [if_neg (by omega), Array.getElem?_eq_none (by rw [arrT_size]; omega), Array.getElem?_eq_none (by rw [arrT_size]; omega)]
/-- setting twice -/
theorem set_set (xs : Array Value) (i : Nat) (u v : Value) : (xs.setIfInBounds i u).setIfInBounds i v = xs.setIfInBounds i v := by simp
end Go.Proofs.Ytclpjmhanhocoaa.ShaRow
