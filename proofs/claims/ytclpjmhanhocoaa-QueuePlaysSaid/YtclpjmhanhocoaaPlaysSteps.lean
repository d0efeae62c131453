/- The walks of what muleteerlaw16.QueuePlays calls, besides the queue's methods of QueueInt. Conditions: as stated in each theorem. -/
import Derived.Test.YtclpjmhanhocoaaQueueInt
import Derived.Test.YtclpjmhanhocoaaQueueAwake
import Derived.Laws.CopyRow
import Derived.Deep.AppendLies
set_option linter.unusedVariables false
set_option linter.unusedSimpArgs false
set_option linter.unusedSectionVars false
namespace Go.Proofs.Ytclpjmhanhocoaa.Plays
open Go.RowKit Base QInt
set_option maxRecDepth 100000

def ints (l : List Int) : List Value := l.map fun x => .int .i64 x
theorem ints_snoc (l : List Int) (x : Int) : ints l ++ [.int .i64 x] = ints (l ++ [x]) := by simp [ints]

/-- the queue with xs in line, the reference's queue with ys in line -/
structure Sp (w0 wr : World) (base q g r room : Nat) (v : Value) (xs ys : List Int) : Prop where
  ql : QL wr q g room xs
  hr : wr.heap[r]? = some (.cells #[v, .int .i64 room] 47 (0, 0))
  own : wr.ownsRow base 3 1 v ys.length (ints ys)
  bel : Below w0.heap.size w0 wr
  bs : base ≤ wr.heap.size
  qb : w0.heap.size ≤ q ∧ q < base
  gb : w0.heap.size ≤ g ∧ g < base
  rb : w0.heap.size ≤ r ∧ r < base
  rq : r ≠ q
  rg : r ≠ g
section
variable {w0 wr w1 : World} {base q g r room : Nat} {v v' : Value} {xs xs' ys ys' : List Int} (h : Sp w0 wr base q g r room v xs ys)
include h
theorem Sp.b0 : w0.heap.size ≤ base := by have := h.qb; omega
theorem Sp.row (hO : ∀ k, base ≤ k → k < wr.heap.size → w1.heap[k]? = wr.heap[k]?) : w1.ownsRow base 3 1 v ys.length (ints ys) := by
  refine ⟨h.own.1, ?_⟩
  rcases h.own.2 with h1 | ⟨b, cap, cur, e, hb, hh, rest⟩
  · exact .inl h1
  · exact .inr ⟨b, cap, cur, e, hb, (hO b hb (lt_of_block hh)).trans hh, rest⟩
theorem Sp.queue (hq : QL w1 q g room xs') (hO : Only (fun k => k = q ∨ k = g) wr w1) : Sp w0 w1 base q g r room v xs' ys := by
  have hs := h.bs
  refine ⟨hq, (hO.block r (by have := h.rb; omega) (by rintro (e | e); exact h.rq e; exact h.rg e)).trans h.hr, h.row (fun k hk hl => hO.block k hl (by rintro (rfl | rfl); have := h.qb; omega; have := h.gb; omega)), Only.below h.bel hO ?_ h.bel.size, by have := hO.size; omega, h.qb, h.gb, h.rb, h.rq, h.rg⟩
  rintro k hk (rfl | rfl)
  · have := h.qb; omega
  · have := h.gb; omega
theorem Sp.drewN (n : Nat) : Sp w0 (wr.drewN n) base q g r room v xs ys := h.queue (h.ql.drewN n) (Only.drewN (Only.refl _ _) n)
theorem Sp.below (hb : Below wr.heap.size wr w1) : Sp w0 w1 base q g r room v xs ys := by
  have hl := h.ql.le
  have := h.bel.size
  exact ⟨h.ql.kept (hb.block q hl.2.2.1) (hb.block g hl.2.2.2.1), (hb.block r (lt_of_block h.hr)).trans h.hr, h.row (fun k _ hk => hb.block k hk), Base.bel h.bel hb this, by have := hb.size; have := h.bs; omega, h.qb, h.gb, h.rb, h.rq, h.rg⟩
theorem Sp.ref (hO : Only (fun k => k = r ∨ base ≤ k) wr w1) (hr : w1.heap[r]? = some (.cells #[v', .int .i64 room] 47 (0, 0))) (ho : w1.ownsRow base 3 1 v' ys'.length (ints ys')) : Sp w0 w1 base q g r room v' xs ys' := by
  have hl := h.ql.le
  have hs := h.bel.size
  have hq := h.qb
  have hg := h.gb
  have hrb := h.rb
  refine ⟨h.ql.kept (hO.block q hl.2.2.1 (by rintro (e | e); exact h.rq e.symm; omega)) (hO.block g hl.2.2.2.1 (by rintro (e | e); exact h.rg e.symm; omega)), hr, ho, Only.below h.bel hO ?_ hs, by have := hO.size; have := h.bs; omega, h.qb, h.gb, h.rb, h.rq, h.rg⟩
  rintro k hk (e | e)
  · omega
  · omega
theorem Sp.only {row : Option Nat} (hg : wr.grownBy w1 row) (hrow : ∀ k, row = some k → base ≤ k) : Only (fun k => k = r ∨ base ≤ k) wr w1 :=
  ⟨hg.os, hg.tape, hg.output, hg.size, fun k hk hn => hg.block k hk (fun e => hn (.inr (hrow k e.symm)))⟩
theorem Sp.stored (hO : Only (fun k => k = r ∨ base ≤ k) wr w1) (hr : w1.heap[r]? = some (.cells #[v, .int .i64 room] 47 (0, 0))) (ho : w1.ownsRow base 3 1 v' ys'.length (ints ys')) : Sp w0 (w1.setCell ⟨r, 0, none⟩ v') base q g r room v' xs ys' := by
  refine h.ref (hO.setCell (.inl rfl) _) (by rw [block_setCell hr]; rfl) ?_
  refine ⟨ho.1, ?_⟩
  rcases ho.2 with h1 | ⟨b, cap, cur, e, hb, hh, rest⟩
  · exact .inl h1
  · exact .inr ⟨b, cap, cur, e, hb, block_setCell_other hh (by have := h.rb; omega) _, rest⟩
theorem Sp.c0 : wr.cell? ⟨r, 0, none⟩ = some v := by rw [cell_of_block h.hr]; rfl
theorem Sp.c1 : wr.cell? ⟨r, 1, none⟩ = some (.int .i64 room) := by rw [cell_of_block h.hr]; rfl
theorem Sp.free : wr.frozen? ⟨r, 0, none⟩ = false := free_of_block h.hr
theorem Sp.rblock {row : Option Nat} {o : Obj} (hg : (wr.alloc o).grownBy w1 row) (hrow : ∀ k, row = some k → base ≤ k) : w1.heap[r]? = some (.cells #[v, .int .i64 room] 47 (0, 0)) := by
  have := h.rb
  rw [hg.block r (by have := lt_of_block h.hr; simp; omega) (fun e => by have := hrow r e.symm; omega)]
  exact block_alloc h.hr _
end
/-- a row of one's own, as a slice that is read -/
theorem own_shape {w : World} {base n : Nat} {v : Value} {l : List Int} (h : w.ownsRow base 3 1 v n (ints l)) : ∃ a cap, v = .slice a n cap ∧ n ≤ cap ∧ l.length = n ∧ ∀ i x, l[i]? = some x → ∃ b, a = some ⟨b, 0, none⟩ ∧ w.cell? ⟨b, i, none⟩ = some (.int .i64 x) := by
  have hn : l.length = n := by have := h.1; simpa [ints] using this
  rcases h.2 with ⟨rfl, rfl⟩ | ⟨g, cap, cur, rfl, hb, hg, hnc, hcm, hcs, htake⟩
  · have := h.1
    simp [ints] at this
    subst this
    exact ⟨none, 0, rfl, by omega, rfl, by simp⟩
  · refine ⟨_, cap, rfl, hnc, hn, fun i x hx => ⟨g, rfl, ?_⟩⟩
    have hi : i < n := by
      have := (List.getElem?_eq_some_iff.1 hx).1
      omega
    rw [h.cellAt i (by omega)]
    simp [ints, hx]
theorem info3 : (Try.prog.info? 3).map (fun i => (i.zero, i.size, i.bytes)) = some (some (.int .i64 0), 1, 8) := by kernel_rfl

theorem rput_full (x : Int) {w0 w : World} {base q g r room : Nat} {v : Value} {xs ys : List Int} (h : Sp w0 w base q g r room v xs ys) (hl : ys.length = room) :
    Calls Try.prog 19 #[.pointer (some ⟨r, 0, none⟩), .int .i64 x] w fun e w' => e = .returned (.int .i64 6) ∧ ∃ k, w' = w.drewN k := by
  obtain ⟨a, cap, rfl, _⟩ := own_shape h.own
  have c0 := h.c0
  have c1 := h.c1
  have hle : (room : Int) ≤ (ys.length : Nat) := by omega
  clear h hl
  go_enter Try.func19, Try.ntmps19
  go_wp2_with fail
  go_quiet (fail)
  go_wp2
  go_ret
  exact ⟨rfl, _, rfl⟩
theorem rput (x : Int) {w0 w : World} {base q g r room : Nat} {v : Value} {xs ys : List Int} (h : Sp w0 w base q g r room v xs ys) (hl : ys.length < room) :
    Calls Try.prog 19 #[.pointer (some ⟨r, 0, none⟩), .int .i64 x] w fun e w' => e = .returned (.int .i64 0) ∧ ∃ v', Sp w0 w' base q g r room v' xs (ys ++ [x]) ∧ Only (fun k => k = r ∨ base ≤ k) w w' := by
  have hroom := h.ql.le.2.2.2.2.2
  have H := Lib.hid h
  obtain ⟨a, cap, rfl, _⟩ := own_shape h.own
  have c0 := h.c0
  have c1 := h.c1
  have hle : ¬ (room : Int) ≤ (ys.length : Nat) := by omega
  clear h
  obtain ⟨i0, hi, hz0, hz1, hz2⟩ := info_parts info3
  go_enter Try.func19, Try.ntmps19
  go_wp2_with fail
  go_quiet (fail)
  have HD := Lib.hid (H.out.drewN nq)
  have hown := HD.out.own
  have hbs := HD.out.bs
  have d0 := HD.out.c0
  have hrow : ∀ k, (Value.slice a ys.length cap).ownBlock = some k → base ≤ k := fun k hk => (hown.lt k hk).1
  go_wp2_with (at_builtin; go_must (refine wpList_append_one _ rfl (.tmp 19) (.tmp 21) 45 rfl base 3 i0 (.int .i64 0) 8 Try.underlying45 hi hz0 hz1 hz2 rfl (.int .i64 x) rfl _ _ _ rfl hown rfl (by unfold maxLen; omega) (by omega) hbs ?_); intro v3 w3 ho3 hg3 hw3; rw [ints_snoc] at ho3; obtain ⟨a3, cap3, hv3, _⟩ := own_shape ho3; subst hv3; have hb3 := HD.out.rblock hg3 hrow; have f3 := free_of_block (o := 0) hb3; have e3 : w3.cell? ⟨r, 0, none⟩ = some (.slice a ys.length cap) := (by rw [cell_of_block hb3]; rfl))

  go_ret
  refine ⟨rfl, .slice a3 (ys.length + 1) cap3, ?_, ?_⟩
  · refine HD.out.stored ?_ hb3 (by simpa using ho3)
    exact (Only.alloc (Only.refl _ _) _).trans ((HD.out.below ((Below.refl _ _).alloc (Nat.le_refl _) _)).only hg3 hrow)
  · exact (((Only.drewN (Only.refl _ _) nq).alloc _).trans ((HD.out.below ((Below.refl _ _).alloc (Nat.le_refl _) _)).only hg3 hrow)).setCell (.inl rfl) _

theorem rget_none {w0 w : World} {base q g r room : Nat} {v : Value} {xs : List Int} (h : Sp w0 w base q g r room v xs []) :
    Calls Try.prog 23 #[.pointer (some ⟨r, 0, none⟩)] w fun e w' => e = .returned (.tuple #[.int .i64 0, .bool false]) ∧ w' = w := by
  obtain ⟨a, cap, rfl, _⟩ := own_shape h.own
  have c0 := h.c0
  clear h
  go_enter Try.func23, Try.ntmps23
  go_wp2
  go_ret2
  exact ⟨rfl, rfl⟩
theorem rget (y : Int) {w0 w : World} {base q g r room : Nat} {v : Value} {xs ys : List Int} (h : Sp w0 w base q g r room v xs (y :: ys)) (hr : (y :: ys).length ≤ 1024) :
    Calls Try.prog 23 #[.pointer (some ⟨r, 0, none⟩)] w fun e w' => e = .returned (.tuple #[.int .i64 y, .bool true]) ∧ ∃ v', Sp w0 w' base q g r room v' xs ys := by
  have H := Lib.hid h
  obtain ⟨a, cap, rfl, hcap, _, hcell⟩ := own_shape h.own
  obtain ⟨b, rfl, hc0⟩ := hcell 0 y rfl
  have c0 := h.c0
  have hcell' : ∀ j u, (ints ys)[j]? = some u → w.cell? ⟨b, 1 + j, none⟩ = some u := by
    intro j u hu
    simp only [ints, List.getElem?_map, Option.map_eq_some_iff] at hu
    obtain ⟨x, hx, rfl⟩ := hu
    obtain ⟨b2, he, hc2⟩ := hcell (j + 1) x (by simpa using hx)
    injection he with he
    injection he with he
    subst he
    rw [Nat.add_comm]
    exact hc2
  have hb : b < w.heap.size := World.block_lt_of_cell? w _ hc0
  have HC := Lib.hid hcell'
  have hlen : (y :: ys).length = ys.length + 1 := rfl
  rw [hlen] at c0 hcap hr
  have hne : (((ys.length + 1 : Nat) : Int) == 0) = false := beq_eq_false_iff_ne.2 (by omega)
  have hi1 : (0 : Int) < ((ys.length + 1 : Nat) : Int) := by omega
  have hi2 : (1 : Int) ≤ ((ys.length + 1 : Nat) : Int) := by omega
  clear h hcell hcell'
  obtain ⟨i0, hi, hz0, hz1, hz2⟩ := info_parts info3
  have HD := Lib.hid (H.out.below ((Below.refl _ w).alloc (Nat.le_refl _) (.cells #[] 3)))
  have hown0 := World.ownsRow_lit (e := 3) (size := 1) (base := base) w #[] 0 H.out.bs (by unfold maxLen; omega) rfl
  have hbs : base ≤ (w.alloc (.cells #[] 3)).heap.size := HD.out.bs
  have hcells : ∀ j u, (ints ys)[j]? = some u → (w.alloc (.cells #[] 3)).cell? ⟨b, 1 + j, none⟩ = some u := fun j u hu => (((Below.refl _ w).alloc (Nat.le_refl _) (.cells #[] 3)).cell (p := ⟨b, 1 + j, none⟩) hb).trans (HC.out j u hu)
  have hrow : ∀ k, (Value.slice (some ⟨w.heap.size, 0, none⟩) 0 0).ownBlock = some k → base ≤ k := fun k hk => (hown0.lt k hk).1
  have HCS := Lib.hid hcells
  have hd0 : (w.alloc (.cells #[] 3)).cell? ⟨r, 0, none⟩ = some (.slice (some ⟨b, 0, none⟩) (ys.length + 1) cap) := HD.out.c0
  clear hcells
  rcases Nat.eq_or_lt_of_le (show 1 ≤ cap by omega) with hcap1 | hcap1
  · subst hcap1
    have hys : ys = [] := by cases ys with | nil => rfl | cons _ _ => (simp at hcap; try omega)
    subst hys
    go_enter Try.func23, Try.ntmps23
    go_wp2_with (at_builtin; go_must (refine wpList_append_own _ rfl (.tmp 18) (.tmp 23) 45 rfl base 3 i0 (.int .i64 0) 1 8 Try.underlying45 hi hz0 hz1 hz2 rfl (by decide) _ _ _ rfl hown0 ⟨b, 0, none⟩ 0 0 [] rfl rfl (by simp) (by simp) (by unfold maxLen; omega) (by omega) hbs ?_); intro v3 w3 ho3 hg3 hw3; have ho4 : w3.ownsRow base 3 1 v3 ([] : List Int).length (ints ([] : List Int)) := (by simpa [ints] using ho3); obtain ⟨a3, cap3, hv3, _⟩ := own_shape ho4; subst hv3; have hb3 := H.out.rblock hg3 hrow; have f3 := free_of_block (o := 0) hb3; have e3 := (show w3.cell? ⟨r, 0, none⟩ = some _ by rw [cell_of_block hb3]; rfl))
    go_ret2
    refine ⟨rfl, .slice a3 0 cap3, ?_⟩
    refine HD.out.stored (HD.out.only hg3 hrow) hb3 ho4
  · have hn1 : ¬ cap = 1 := by omega
    go_enter Try.func23, Try.ntmps23
    go_wp2_with (at_builtin; go_must (refine wpList_append_own _ rfl (.tmp 18) (.tmp 23) 45 rfl base 3 i0 (.int .i64 0) 1 8 Try.underlying45 hi hz0 hz1 hz2 rfl (by decide) _ _ _ rfl hown0 ⟨b, 1, none⟩ ys.length (cap - 1) (ints ys) (by first | rfl | simp [sliced, hn1]) (by simp [ints]) (by intro j u hu; have hj := HCS.out j u hu; have hadd : (⟨b, 1, none⟩ : Addr).add j = ⟨b, 1 + j, none⟩ := (by unfold Addr.add; split <;> simp_all); rw [hadd]; exact hj) (by intro u hu; simp [ints] at hu; obtain ⟨x, _, rfl⟩ := hu; rfl) (by unfold maxLen; omega) (by omega) hbs ?_); intro v3 w3 ho3 hg3 hw3; have ho4 : w3.ownsRow base 3 1 v3 ys.length (ints ys) := (by simpa [ints] using ho3); obtain ⟨a3, cap3, hv3, _⟩ := own_shape ho4; subst hv3; have hb3 := H.out.rblock hg3 hrow; have f3 := free_of_block (o := 0) hb3; have e3 := (show w3.cell? ⟨r, 0, none⟩ = some _ by rw [cell_of_block hb3]; rfl))
    go_ret2
    refine ⟨rfl, .slice a3 ys.length cap3, ?_⟩
    refine HD.out.stored (HD.out.only hg3 hrow) hb3 ho4

theorem cells_zero (n : Nat) : Builtin.zeroCells (Value.cells (.int .i64 0)) n = zeros n := by
  apply Array.ext
  · simp [Builtin.zeroCells, zeros, Value.cells]
  · intro j a b
    simp [Builtin.zeroCells, zeros, Value.cells, Nat.mod_one]
theorem run_clear_row {w : World} {g n : Nat} {vs : Array Value} (ty : TypeId) (hg : w.heap[g]? = some (.cells vs 3 (0, 0))) (hn : vs.size = n) (h0 : 0 < n) :
    (Builtin.clear_ #[45] ty #[.slice (some ⟨g, 0, none⟩) n n]).run Try.prog w = .ok (.tuple #[]) (w.setRow g (zeros n)) := by
  obtain ⟨i, hi, hz, h2, h3⟩ := info_parts info3
  have hs := run_storeCells_from (P := Try.prog) g 3 (zeros n).toList 0 vs w hg (by simp [zeros, hn]) (by intro v hv; simp [zeros] at hv; rw [hv.2]; rfl)
  match n, h0 with
  | m + 1, _ =>
    simp [Builtin.clear_, run_underlying Try.underlying45, zeroValue, typeInfo, hi, hz, Result.andThen, cells_zero]
    simp at hs
    simp [hs]
theorem setRow_only (w : World) (q g : Nat) (cs : Array Value) : Only (fun k => k = q ∨ k = g) w (w.setRow g cs) :=
  ⟨rfl, rfl, rfl, by simp, fun k _ hk => setRow_other w g k cs (fun e => hk (.inr e))⟩
theorem clear {w : World} {q g room : Nat} {xs : List Int} (h : QL w q g room xs) :
    Calls Try.prog 20 #[.pointer (some ⟨q, 0, none⟩)] w fun e w' => e = .returned (.tuple #[]) ∧ QL w' q g room [] ∧ Only (fun k => k = q ∨ k = g) w w' := by
  obtain ⟨first, vs, h, hx⟩ := h
  have H := Lib.hid h
  have c0 := h.c0
  have hrun := fun ty => run_clear_row ty h.hg h.size h.room0
  have hI : IsQ (w.setRow g (zeros room)) q g room first xs.length (zeros room) :=
    ⟨(setRow_other w g q _ h.ne).trans h.hq, setRow_heap w g _ _ _ _ h.hg, h.ne, by simp [zeros], h.room0, h.roomM, h.first0, h.many0⟩
  have HI := Lib.hid hI
  have d1 := hI.c1
  have d2 := hI.c2
  have f1 := hI.freeq 1
  have f2 := hI.freeq 2
  clear h hI hx
  go_enter Try.func20, Try.ntmps20
  go_wp2
  go_end0
  refine ⟨rfl, ⟨0, zeros room, ?_, by simp⟩, ?_⟩
  · exact (HI.out.setFirst 0 HI.out.room0 rfl).setMany 0 (by omega) rfl
  · exact ((setRow_only w q g _).setCell (.inl rfl) _).setCell (.inl rfl) _
theorem same_true {w : World} {a b : Option Addr} {ca cb : Nat} (l : List Int) (ha : ∀ i x, l[i]? = some x → ∃ g, a = some ⟨g, 0, none⟩ ∧ w.cell? ⟨g, i, none⟩ = some (.int .i64 x)) (hb : ∀ i x, l[i]? = some x → ∃ g, b = some ⟨g, 0, none⟩ ∧ w.cell? ⟨g, i, none⟩ = some (.int .i64 x)) (hl : l.length ≤ 1024) :
    Calls Try.prog 26 #[.slice a l.length ca, .slice b l.length cb] w fun e w' => e = .returned (.bool true) ∧ ∃ k, w' = w.drewN k := by
  have HA := Lib.hid ha
  have HB := Lib.hid hb
  clear ha hb
  go_enter Try.func26, Try.ntmps26
  go_wp2_with fail
  go_loopw [5] (fun i wr => ∃ t nq : Nat, t ≤ l.length ∧ i = .int .i64 t ∧ wr = w.drewN nq) (fun i _ => l.length - (intOf i).toNat)
  case atStart => exact ⟨0, 0, by omega, rfl, rfl⟩
  case round =>
    obtain ⟨t, nq, ht, rfl, rfl⟩ := hrel
    by_cases htl : t < l.length
    · obtain ⟨b1, rfl, hc1⟩ := HA.out t _ (List.getElem?_eq_getElem htl)
      obtain ⟨b2, rfl, hc2⟩ := HB.out t _ (List.getElem?_eq_getElem htl)
      generalize l[t] = x at hc1 hc2
      have hx1 : (0 : Int) ≤ (t : Int) := by omega
      have hx2 : (t : Int) < (l.length : Nat) := by omega
      go_wp2_with fail
      go_quiet (fail)
      go_wp2
      go_roundw
      case rel => exact ⟨t + 1, _, by omega, by go_num, rfl⟩
      case measure => simp [intOf]; omega
    · go_wp2
      go_ret
      exact ⟨rfl, _, rfl⟩
theorem IsQ.bel {w0 w : World} {q g room first many : Nat} {vs : Array Value} (h : IsQ w0 q g room first many vs) (hb : Below w0.heap.size w0 w) : IsQ w q g room first many vs :=
  ⟨(hb.block q (lt_of_block h.hq)).trans h.hq, (hb.block g (lt_of_block h.hg)).trans h.hg, h.ne, h.size, h.room0, h.roomM, h.first0, h.many0⟩
theorem belDrewN {B : Nat} {a b : World} (h : Below B a b) (n : Nat) : Below B a (b.drewN n) := ⟨h.os, h.tape, h.output, h.size, h.block⟩
theorem keepA {w0 w : World} {q g j : Nat} {u v : Value} (c0 : w0.cell? ⟨q, 0, none⟩ = some u) (c1 : w0.cell? ⟨g, j, none⟩ = some v) (hb : Below w0.heap.size w0 w) :
    w.cell? ⟨q, 0, none⟩ = some u ∧ w.cell? ⟨g, j, none⟩ = some v ∧ Below w0.heap.size w0 w :=
  ⟨(hb.cell (p := ⟨q, 0, none⟩) (World.block_lt_of_cell? _ _ c0)).trans c0, (hb.cell (p := ⟨g, j, none⟩) (World.block_lt_of_cell? _ _ c1)).trans c1, hb⟩
theorem keepA_drewN {w0 w : World} {q g j : Nat} {u v : Value} (h : w.cell? ⟨q, 0, none⟩ = some u ∧ w.cell? ⟨g, j, none⟩ = some v ∧ Below w0.heap.size w0 w) (n : Nat) :
    (w.drewN n).cell? ⟨q, 0, none⟩ = some u ∧ (w.drewN n).cell? ⟨g, j, none⟩ = some v ∧ Below w0.heap.size w0 (w.drewN n) := ⟨h.1, h.2.1, belDrewN h.2.2 n⟩
theorem keepA_alloc {w0 w : World} {q g j : Nat} {u v : Value} (h : w.cell? ⟨q, 0, none⟩ = some u ∧ w.cell? ⟨g, j, none⟩ = some v ∧ Below w0.heap.size w0 w) (hq : q < w0.heap.size) (hg : g < w0.heap.size) (o : Obj) :
    (w.alloc o).cell? ⟨q, 0, none⟩ = some u ∧ (w.alloc o).cell? ⟨g, j, none⟩ = some v ∧ Below w0.heap.size w0 (w.alloc o) := by
  have hb : Below w.heap.size w (w.alloc o) := (Below.refl _ _).alloc (Nat.le_refl _) _
  have hs := h.2.2.size
  exact ⟨(hb.cell (p := ⟨q, 0, none⟩) (by show q < _; omega)).trans h.1, (hb.cell (p := ⟨g, j, none⟩) (by show g < _; omega)).trans h.2.1, h.2.2.alloc hs _⟩
theorem keepA_size {w0 w : World} {q g j : Nat} {u v : Value} (h : w.cell? ⟨q, 0, none⟩ = some u ∧ w.cell? ⟨g, j, none⟩ = some v ∧ Below w0.heap.size w0 w) : w0.heap.size ≤ w.heap.size := h.2.2.size
theorem keepA_grown {w0 w w4 : World} {q g j : Nat} {u v : Value} {row : Option Nat} (c0 : w0.cell? ⟨q, 0, none⟩ = some u) (c1 : w0.cell? ⟨g, j, none⟩ = some v) (hg : w.grownBy w4 row) (h : w.cell? ⟨q, 0, none⟩ = some u ∧ w.cell? ⟨g, j, none⟩ = some v ∧ Below w0.heap.size w0 w) (hr : ∀ k, row = some k → w0.heap.size ≤ k) :
    w4.cell? ⟨q, 0, none⟩ = some u ∧ w4.cell? ⟨g, j, none⟩ = some v ∧ Below w0.heap.size w0 w4 := keepA c0 c1 (h.2.2.grown hg h.2.2.size hr)
theorem ownDrewN {w : World} {base : Nat} {v : Value} {n : Nat} {l : List Value} (h : w.ownsRow base 3 1 v n l) (m : Nat) : (w.drewN m).ownsRow base 3 1 v n l := h
theorem one_news {w : World} {T : TypeId} {u : Value} : ∀ j y, [u][j]? = some y → (w.alloc (.cells #[u] T)).cell? ((⟨w.heap.size, 0, none⟩ : Addr).add j) = some y := by
  intro j y hj
  match j, hj with
  | 0, hj => simp at hj; subst hj; simp [Addr.add]
theorem all {w : World} {q g room : Nat} {xs : List Int} (h : QL w q g room xs) :
    Calls Try.prog 27 #[.pointer (some ⟨q, 0, none⟩)] w fun e w' => ∃ v, e = .returned v ∧ w'.ownsRow w.heap.size 3 1 v xs.length (ints xs) ∧ Below w.heap.size w w' := by
  have hle := h.le
  have H := Lib.hid h
  obtain ⟨first, vs, hq, hx⟩ := h
  have HQ := Lib.hid hq
  have HX := Lib.hid hx
  have c0 := hq.c0
  have hroom0 := hq.room0
  clear hq hx
  obtain ⟨i0, hi, hz0, hz1, hz2⟩ := info_parts info3
  go_enter Try.func27, Try.ntmps27
  go_wp2_with fail
  refine (len_list H.out).mono ?_
  rintro e w' ⟨rfl, rfl⟩
  go_wp2_with fail
  go_loopw [3, 7] (fun v i wr => ∃ k : Nat, k ≤ xs.length ∧ i = .int .i64 k ∧ wr.ownsRow w'.heap.size 3 1 v k (ints (xs.take k)) ∧ Below w'.heap.size w' wr) (fun _ i _ => xs.length - (intOf i).toNat)
  case atStart => exact ⟨0, by omega, rfl, by simpa [ints] using World.ownsRow_nil _ _ _ _, Below.refl _ _⟩
  case round =>
    obtain ⟨k, hk, rfl, hown, hb⟩ := hrel
    have HO := Lib.hid hown
    have HB := Lib.hid hb
    clear hown hb
    by_cases hkl : k < xs.length
    · have hx1 := HX.out k _ (List.getElem?_eq_getElem hkl)
      have hpl := Nat.mod_lt (first + k) hroom0
      obtain ⟨j, hj⟩ : ∃ j, j = (first + k) % room := ⟨_, rfl⟩
      rw [← hj] at hx1 hpl
      have HJ := Lib.hid hj
      have c1 : w'.cell? ⟨g, j, none⟩ = some (.int .i64 xs[k]) := by rw [cell_of_block HQ.out.hg]; exact hx1
      have hm1 : (0 : Int) ≤ (j : Int) := by omega
      have hm2 : (j : Int) < room := by omega
      obtain ⟨x, hxk⟩ : ∃ x, xs[k] = x := ⟨_, rfl⟩
      rw [hxk] at c1
      have HXK := Lib.hid hxk
      clear hj hx1 hxk
      have hbs := HB.out.size
      have C0 := Lib.hid c0
      have C1 := Lib.hid c1
      clear c0 c1
      go_wp2_with fail
      go_region_held3 (fun w2 => w2.cell? ⟨q, 0, none⟩ = some (.slice (some ⟨g, 0, none⟩) room room) ∧ w2.cell? ⟨g, j, none⟩ = some (.int .i64 x) ∧ Below w'.heap.size w' w2)
        (first | assumption | exact keepA C0.out C1.out (belDrewN HB.out 1) | exact keepA_drewN (by assumption) _ | exact keepA C0.out C1.out (belDrewN HB.out _) | exact keepA_alloc (by assumption) hle.2.2.1 hle.2.2.2.1 _)
        (first | (go_at_call 50; refine (place_at (IsQ.bel HQ.out (by assumption : _ ∧ _ ∧ _).2.2) (by omega) HJ).mono ?_; rintro e w2 ⟨rfl, kk, rfl⟩) | (refine step_append_lies _ rfl (.tmp 10) (.tmp 20) 45 rfl w'.heap.size 3 i0 (.int .i64 0) 1 8 Try.underlying45 hi hz0 hz1 hz2 rfl (by decide) _ k (ints (xs.take k)) rfl ((ownDrewN HO.out _).alloc _) _ 1 1 [.int .i64 x] rfl rfl one_news (by intro u hu; simp at hu; rw [hu]; rfl) (by decide) (by unfold maxLen; omega) (by omega) (keepA_size (by assumption)) _ rfl ?_; intro g4 cap4 w4 hown4 hgrow4 hwh4 hlt4; have HK4 := Lib.hid hown4; have hS4 := keepA_grown C0.out C1.out hgrow4 (by assumption) (fun kk hkk => (HO.out.lt kk hkk).1)))
      go_wp2
      go_roundw
      case rel => exact ⟨k + 1, by omega, by go_num, by have h5 := HK4.out; rw [ints_snoc, ← HXK.out, List.take_append_getElem] at h5; exact h5, (by assumption : _ ∧ _ ∧ _).2.2⟩
      case measure => simp [intOf]; omega
    · go_wp2
      go_ret
      have : k = xs.length := by omega
      subst this
      exact ⟨_, rfl, by simpa using HO.out, HB.out⟩
end Go.Proofs.Ytclpjmhanhocoaa.Plays
