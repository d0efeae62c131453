/- What each step of muleteerlaw16.QueueOrder does to the memory that it made. Conditions: as stated in each theorem. -/
import Derived.Test.YtclpjmhanhocoaaQueueStr
set_option linter.unusedVariables false
set_option linter.unusedSimpArgs false
namespace Go.Proofs.Ytclpjmhanhocoaa.Order
open Go.RowKit Base QStr

def strs (l : List ByteArray) : List Value := l.map Value.string
theorem strs_snoc (l : List ByteArray) (x : ByteArray) : strs l ++ [.string x] = strs (l ++ [x]) := by simp [strs]

/-- the queue, what was put, what was got -/
structure St (w0 wr : World) (base q g room : Nat) (vin vout : Value) (A Bl C : List ByteArray) : Prop where
  ql : QL wr q g room C
  hin : wr.ownsRow base 9 1 vin A.length (strs A)
  hout : wr.ownsRow base 9 1 vout Bl.length (strs Bl)
  sep : vin.ownBlock = none ∨ vin.ownBlock ≠ vout.ownBlock
  bel : Below w0.heap.size w0 wr
  bs : base ≤ wr.heap.size
  qb : w0.heap.size ≤ q ∧ q < base
  gb : w0.heap.size ≤ g ∧ g < base
section
variable {w0 wr w1 : World} {base q g room : Nat} {vin vout v' : Value} {A Bl C C' : List ByteArray} {x : ByteArray} (h : St w0 wr base q g room vin vout A Bl C)
include h
theorem St.b0 : w0.heap.size ≤ base := by have := h.qb; omega
theorem St.only (hq : QL w1 q g room C') (hO : Only (fun k => k = q ∨ k = g) wr w1) : St w0 w1 base q g room vin vout A Bl C' := by
  have hgr : ∀ k, base ≤ k → k < wr.heap.size → w1.heap[k]? = wr.heap[k]? := fun k hk hl => hO.block k hl (by rintro (rfl | rfl); have := h.qb; omega; have := h.gb; omega)
  have keep : ∀ {v : Value} {n : Nat} {xs : List Value}, wr.ownsRow base 9 1 v n xs → w1.ownsRow base 9 1 v n xs := by
    intro v n xs hw
    refine ⟨hw.1, ?_⟩
    rcases hw.2 with h1 | ⟨b, cap, cur, rfl, hb, hh, r⟩
    · exact .inl h1
    · exact .inr ⟨b, cap, cur, rfl, hb, (hgr b hb (lt_of_block hh)).trans hh, r⟩
  refine ⟨hq, keep h.hin, keep h.hout, h.sep, Only.below h.bel hO ?_ h.bel.size, by have := hO.size; have := h.bs; omega, h.qb, h.gb⟩
  rintro k hk (rfl | rfl)
  · have := h.qb; omega
  · have := h.gb; omega
theorem St.drewN (n : Nat) : St w0 (wr.drewN n) base q g room vin vout A Bl C := h.only (h.ql.drewN n) (Only.drewN (Only.refl _ _) n)
theorem St.alloc (o : Obj) : St w0 (wr.alloc o) base q g room vin vout A Bl C := by
  have hb := h.bel.size
  have hl := h.ql.le
  exact ⟨h.ql.kept (Below.heap_alloc _ _ _ hl.2.2.1) (Below.heap_alloc _ _ _ hl.2.2.2.1), h.hin.alloc _, h.hout.alloc _, h.sep, h.bel.alloc hb _, by have := h.bs; simp; omega, h.qb, h.gb⟩
theorem St.grow {row : Option Nat} (hg : wr.grownBy w1 row) (hr : ∀ k, row = some k → base ≤ k) : QL w1 q g room C ∧ Below w0.heap.size w0 w1 ∧ base ≤ w1.heap.size := by
  have hl := h.ql.le
  refine ⟨h.ql.kept (hg.block q hl.2.2.1 ?_) (hg.block g hl.2.2.2.1 ?_), h.bel.grown hg h.bel.size (fun k hk => by have := hr k hk; have := h.b0; omega), by have := hg.size; have := h.bs; omega⟩
  · intro e; have := hr q e.symm; have := h.qb; omega
  · intro e; have := hr g e.symm; have := h.gb; omega
theorem St.appIn (ho : w1.ownsRow base 9 1 v' (A.length + 1) (strs A ++ [.string x])) (hg : wr.grownBy w1 vin.ownBlock) (hw : v'.ownBlock = vin.ownBlock ∨ v'.ownBlock = some wr.heap.size) :
    St w0 w1 base q g room v' vout (A ++ [x]) Bl C := by
  obtain ⟨h1, h2, h3⟩ := h.grow hg (fun k hk => (h.hin.lt k hk).1)
  have hne : vout.ownBlock = none ∨ vout.ownBlock ≠ vin.ownBlock := by
    rcases h.sep with e | e
    · cases ho2 : vout.ownBlock with
      | none => exact .inl rfl
      | some k => exact .inr (by rw [e]; simp)
    · exact .inr (Ne.symm e)
  refine ⟨h1, by rw [strs_snoc] at ho; simpa using ho, h.hout.kept hg hne, ?_, h2, h3, h.qb, h.gb⟩
  rcases hw with e | e
  · rw [e]; exact h.sep
  · right
    rw [e]
    intro e2
    have := (h.hout.lt _ e2.symm).2
    omega
theorem St.appOut (ho : w1.ownsRow base 9 1 v' (Bl.length + 1) (strs Bl ++ [.string x])) (hg : wr.grownBy w1 vout.ownBlock) (hw : v'.ownBlock = vout.ownBlock ∨ v'.ownBlock = some wr.heap.size) :
    St w0 w1 base q g room vin v' A (Bl ++ [x]) C := by
  obtain ⟨h1, h2, h3⟩ := h.grow hg (fun k hk => (h.hout.lt k hk).1)
  have hne : vin.ownBlock = none ∨ vin.ownBlock ≠ vout.ownBlock := h.sep
  refine ⟨h1, h.hin.kept hg hne, by rw [strs_snoc] at ho; simpa using ho, ?_, h2, h3, h.qb, h.gb⟩
  rcases hw with e | e
  · rw [e]; exact h.sep
  · cases e2 : vin.ownBlock with
    | none => exact .inl rfl
    | some k =>
      right
      rw [e]
      intro e3
      have := (h.hin.lt _ e2).2
      injection e3 with e3
      omega
theorem St.app1In (o : Obj) (ho : w1.ownsRow base 9 1 v' (A.length + 1) (strs A ++ [.string x])) (hg : (wr.alloc o).grownBy w1 vin.ownBlock) (hw : v'.ownBlock = vin.ownBlock ∨ v'.ownBlock = some (wr.heap.size + 1)) :
    St w0 w1 base q g room v' vout (A ++ [x]) Bl C := (h.alloc o).appIn ho hg (by simpa using hw)
theorem St.app1Out (o : Obj) (ho : w1.ownsRow base 9 1 v' (Bl.length + 1) (strs Bl ++ [.string x])) (hg : (wr.alloc o).grownBy w1 vout.ownBlock) (hw : v'.ownBlock = vout.ownBlock ∨ v'.ownBlock = some (wr.heap.size + 1)) :
    St w0 w1 base q g room vin v' A (Bl ++ [x]) C := (h.alloc o).appOut ho hg (by simpa using hw)
end
/-- a row of one's own, as a slice that is read -/
theorem own_shape {w : World} {base n : Nat} {v : Value} {l : List ByteArray} (h : w.ownsRow base 9 1 v n (strs l)) : ∃ a cap, v = .slice a n cap ∧ ∀ i x, l[i]? = some x → ∃ b, a = some ⟨b, 0, none⟩ ∧ w.cell? ⟨b, i, none⟩ = some (.string x) := by
  rcases h.2 with ⟨rfl, rfl⟩ | ⟨g, cap, cur, rfl, hb, hg, hnc, hcm, hcs, htake⟩
  · have := h.1
    simp [strs] at this
    subst this
    exact ⟨none, 0, rfl, by simp⟩
  · refine ⟨_, cap, rfl, fun i x hx => ⟨g, rfl, ?_⟩⟩
    have hi : i < n := by
      have := (List.getElem?_eq_some_iff.1 hx).1
      have h1 := h.1
      simp [strs] at h1
      omega
    rw [h.cellAt i (by omega)]
    simp [strs, hx]
theorem St.start {w0 wr : World} {q g room : Nat} (hq : QL wr q g room []) (hb : Below w0.heap.size w0 wr) (h1 : w0.heap.size ≤ q) (h2 : w0.heap.size ≤ g) :
    St w0 wr wr.heap.size q g room (.slice none 0 0) (.slice none 0 0) [] [] [] :=
  ⟨hq, World.ownsRow_nil _ _ _ _, World.ownsRow_nil _ _ _ _, .inl rfl, hb, Nat.le_refl _, ⟨h1, hq.le.2.2.1⟩, ⟨h2, hq.le.2.2.2.1⟩⟩
theorem new_int (n : Int) (w : World) (h0 : 0 < n) (h1 : n ≤ 1024) :
    Calls Try.prog 13 #[.int .i64 n] w fun e w' => ∃ q g, e = .returned (.tuple #[.pointer (some ⟨q, 0, none⟩), .int .i64 0]) ∧ w.heap.size ≤ q ∧ w.heap.size ≤ g ∧ QL w' q g n.toNat [] ∧ Below w.heap.size w w' := by
  obtain ⟨m, rfl⟩ := Int.eq_ofNat_of_zero_le (show 0 ≤ n by omega)
  exact new_list m w (by omega) (by omega)
theorem info9 : (Try.prog.info? 9).map (fun i => (i.zero, i.size, i.bytes)) = some (some (.string ⟨#[]⟩), 1, 16) := by kernel_rfl
end Go.Proofs.Ytclpjmhanhocoaa.Order
