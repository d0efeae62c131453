/- The walks of the queue's methods over numbers. Conditions: as stated in each theorem. -/
import Derived.Test.YtclpjmhanhocoaaBase
import Derived.StillTailTactics
set_option linter.unusedVariables false
set_option linter.unusedSimpArgs false
namespace Go.Proofs.Ytclpjmhanhocoaa.QInt
open Go.RowKit Base
set_option maxRecDepth 100000

/-- a queue in block q, its places in block g: room, the first one, how many, the places -/
structure IsQ (w : World) (q g room first many : Nat) (vs : Array Value) : Prop where
  hq : w.heap[q]? = some (.cells #[.slice (some ⟨g, 0, none⟩) room room, .int .i64 first, .int .i64 many] 82 (0, 0))
  hg : w.heap[g]? = some (.cells vs 3 (0, 0))
  ne : q ≠ g
  size : vs.size = room
  room0 : 0 < room
  roomM : room ≤ 1024
  first0 : first < room
  many0 : many ≤ room

section
variable {w : World} {q g room first many : Nat} {vs : Array Value} (h : IsQ w q g room first many vs)
include h
theorem IsQ.c0 : w.cell? ⟨q, 0, none⟩ = some (.slice (some ⟨g, 0, none⟩) room room) := by rw [cell_of_block h.hq]; rfl
theorem IsQ.c1 : w.cell? ⟨q, 1, none⟩ = some (.int .i64 first) := by rw [cell_of_block h.hq]; rfl
theorem IsQ.c2 : w.cell? ⟨q, 2, none⟩ = some (.int .i64 many) := by rw [cell_of_block h.hq]; rfl
theorem IsQ.at' (i : Nat) (hi : i < room) : ∃ v, w.cell? ⟨g, i, none⟩ = some v := by
  rw [cell_of_block h.hg]
  exact ⟨vs[i]'(by rw [h.size]; exact hi), by simp⟩
theorem IsQ.free (i : Nat) : w.frozen? ⟨g, i, none⟩ = false := free_of_block h.hg
theorem IsQ.freeq (i : Nat) : w.frozen? ⟨q, i, none⟩ = false := free_of_block h.hq
theorem IsQ.setG (j : Nat) (x : Value) : IsQ (w.setCell ⟨g, j, none⟩ x) q g room first many (vs.setIfInBounds j x) :=
  ⟨block_setCell_other h.hq h.ne x, block_setCell h.hg x, h.ne, by simpa using h.size, h.room0, h.roomM, h.first0, h.many0⟩
theorem IsQ.setMany (m : Nat) (hm : m ≤ room) {v : Int} (hv : v = m) : IsQ (w.setCell ⟨q, 2, none⟩ (.int .i64 v)) q g room first m vs := by
  subst hv
  exact ⟨by rw [block_setCell h.hq]; rfl, block_setCell_other h.hg (Ne.symm h.ne) _, h.ne, h.size, h.room0, h.roomM, h.first0, hm⟩
theorem IsQ.setFirst (m : Nat) (hm : m < room) {v : Int} (hv : v = m) : IsQ (w.setCell ⟨q, 1, none⟩ (.int .i64 v)) q g room m many vs := by
  subst hv
  exact ⟨by rw [block_setCell h.hq]; rfl, block_setCell_other h.hg (Ne.symm h.ne) _, h.ne, h.size, h.room0, h.roomM, hm, h.many0⟩
theorem IsQ.drewN (n : Nat) : IsQ (w.drewN n) q g room first many vs := ⟨h.hq, h.hg, h.ne, h.size, h.room0, h.roomM, h.first0, h.many0⟩
end

theorem keepQ {w0 w : World} {q g room first many : Nat} {vs : Array Value} (h : IsQ w q g room first many vs) (hO : Only (fun k => k = q ∨ k = g) w0 w) :
    w.cell? ⟨q, 0, none⟩ = some (.slice (some ⟨g, 0, none⟩) room room) ∧ w.cell? ⟨q, 2, none⟩ = some (.int .i64 many) ∧ IsQ w q g room first many vs ∧ Only (fun k => k = q ∨ k = g) w0 w := ⟨h.c0, h.c2, h, hO⟩
theorem keepQ_drewN {w0 w : World} {q g room first many : Nat} {vs : Array Value}
    (h : w.cell? ⟨q, 0, none⟩ = some (.slice (some ⟨g, 0, none⟩) room room) ∧ w.cell? ⟨q, 2, none⟩ = some (.int .i64 many) ∧ IsQ w q g room first many vs ∧ Only (fun k => k = q ∨ k = g) w0 w) (n : Nat) :
    (w.drewN n).cell? ⟨q, 0, none⟩ = some (.slice (some ⟨g, 0, none⟩) room room) ∧ (w.drewN n).cell? ⟨q, 2, none⟩ = some (.int .i64 many) ∧ IsQ (w.drewN n) q g room first many vs ∧ Only (fun k => k = q ∨ k = g) w0 (w.drewN n) := keepQ (h.2.2.1.drewN n) (h.2.2.2.drewN n)
theorem keepQ_drew {w0 w : World} {q g room first many : Nat} {vs : Array Value}
    (h : w.cell? ⟨q, 0, none⟩ = some (.slice (some ⟨g, 0, none⟩) room room) ∧ w.cell? ⟨q, 2, none⟩ = some (.int .i64 many) ∧ IsQ w q g room first many vs ∧ Only (fun k => k = q ∨ k = g) w0 w) :
    w.drew.cell? ⟨q, 0, none⟩ = some (.slice (some ⟨g, 0, none⟩) room room) ∧ w.drew.cell? ⟨q, 2, none⟩ = some (.int .i64 many) ∧ IsQ w.drew q g room first many vs ∧ Only (fun k => k = q ∨ k = g) w0 w.drew := keepQ_drewN h 1

theorem ret_int {k : IntKind} {a b : Int} (h : a = b) : Ending.returned (.int k a) = .returned (.int k b) := by rw [h]

theorem place (n : Nat) {w : World} {q g room first many : Nat} {vs : Array Value} (h : IsQ w q g room first many vs) (hn : n ≤ 1024) :
    Calls Try.prog 50 #[.pointer (some ⟨q, 0, none⟩), .int .i64 n] w fun e w' => e = .returned (.int .i64 ((first + n) % room : Nat)) ∧ ∃ k, w' = w.drewN k := by
  have c0 := h.c0
  have c1 := h.c1
  have b1 := h.first0
  have b2 := h.roomM
  have b3 := h.room0
  clear h
  have b4 : ¬ (room : Int) = 0 := by omega
  go_enter Try.func50, Try.ntmps50
  go_wp2_with fail
  go_quiet (fail)
  go_wp2
  go_ret
  exact ⟨ret_int (by simp), _, rfl⟩
theorem place_at {n j : Nat} {w : World} {q g room first many : Nat} {vs : Array Value} (h : IsQ w q g room first many vs) (hn : n ≤ 1024) (hj : Hid (j = (first + n) % room)) :
    Calls Try.prog 50 #[.pointer (some ⟨q, 0, none⟩), .int .i64 n] w fun e w' => e = .returned (.int .i64 j) ∧ ∃ k, w' = w.drewN k := by
  rw [hj.out]
  exact place n h hn
theorem place_one {j : Nat} {w : World} {q g room first many : Nat} {vs : Array Value} (h : IsQ w q g room first many vs) (hj : Hid (j = (first + 1) % room)) :
    Calls Try.prog 50 #[.pointer (some ⟨q, 0, none⟩), .int .i64 1] w fun e w' => e = .returned (.int .i64 j) ∧ ∃ k, w' = w.drewN k := place_at (n := 1) h (by omega) hj
theorem room {w : World} {q g room first many : Nat} {vs : Array Value} (h : IsQ w q g room first many vs) :
    Calls Try.prog 25 #[.pointer (some ⟨q, 0, none⟩)] w fun e w' => e = .returned (.int .i64 (room - many : Nat)) ∧ ∃ k, w' = w.drewN k := by
  have c0 := h.c0
  have c2 := h.c2
  have b2 := h.roomM
  have b3 := h.many0
  clear h
  go_enter Try.func25, Try.ntmps25
  go_wp2_with fail
  go_quiet (fail)
  go_wp2
  go_ret
  exact ⟨ret_int (by omega), _, rfl⟩
theorem len {w : World} {q g room first many : Nat} {vs : Array Value} (h : IsQ w q g room first many vs) :
    Calls Try.prog 24 #[.pointer (some ⟨q, 0, none⟩)] w fun e w' => e = .returned (.int .i64 many) ∧ w' = w := by
  have c2 := h.c2
  clear h
  go_enter Try.func24, Try.ntmps24
  go_wp2
  go_ret
  exact ⟨rfl, rfl⟩

theorem put_full (x : Int) {w : World} {q g room first : Nat} {vs : Array Value} (h : IsQ w q g room first room vs) :
    Calls Try.prog 18 #[.pointer (some ⟨q, 0, none⟩), .int .i64 x] w fun e w' => e = .returned (.int .i64 6) ∧ ∃ k, w' = w.drewN k := by
  have H := Lib.hid h
  clear h
  go_enter Try.func18, Try.ntmps18
  go_wp2_with fail
  refine (QInt.room H.out).mono ?_
  rintro e w' ⟨rfl, k, rfl⟩
  rw [Nat.sub_self]
  go_wp2
  go_ret
  exact ⟨rfl, _, rfl⟩
theorem put (x : Int) {w : World} {q g room first many : Nat} {vs : Array Value} (h : IsQ w q g room first many vs) (hm : many < room) :
    Calls Try.prog 18 #[.pointer (some ⟨q, 0, none⟩), .int .i64 x] w fun e w' => e = .returned (.int .i64 0) ∧ IsQ w' q g room first (many + 1) (vs.setIfInBounds ((first + many) % room) (.int .i64 x)) ∧ Only (fun k => k = q ∨ k = g) w w' := by
  have H := Lib.hid h
  have b2 := h.roomM
  clear h
  have h0 : (((room - many : Nat) : Int) == 0) = false := beq_eq_false_iff_ne.2 (by omega)
  go_enter Try.func18, Try.ntmps18
  go_wp2_with fail
  refine (QInt.room H.out).mono ?_
  rintro e w' ⟨rfl, k, rfl⟩
  go_wp2_with fail
  have hd := H.out.drewN k
  have c0 := hd.c0
  have c1 := hd.c1
  have c2 := hd.c2
  have b3 := hd.room0
  have hpl := Nat.mod_lt (first + many) b3
  obtain ⟨j, hj⟩ : ∃ j, j = (first + many) % room := ⟨_, rfl⟩
  have hj0 : j < room := by rw [hj]; exact Nat.mod_lt _ H.out.room0
  have hm1 : (0 : Int) ≤ (j : Int) := by omega
  have hm2 : (j : Int) < room := by omega
  have HJ := Lib.hid hj
  clear hj
  obtain ⟨old, hcell⟩ := H.out.at' j hj0
  have hfree := H.out.free j
  have c0 := H.out.c0
  have c2 := H.out.c2
  clear hd
  have e1 := H.out.ne
  have e2 := Ne.symm e1
  have hfreeq := H.out.freeq 2
  clear c1
  go_region_with (go_at_call 50; refine (place_at (H.out.drewN _) (by omega) HJ).mono ?_; rintro e w' ⟨rfl, k, rfl⟩)
  go_wp2
  all_goals go_ret
  all_goals rw [← HJ.out]
  all_goals exact ⟨rfl, ((H.out.drewN _).setG _ _).setMany _ (by omega) (by omega), ((Only.drewN (Only.refl _ _) _).setCell (.inr rfl) _).setCell (.inl rfl) _⟩

theorem info_e : (Try.prog.info? 3).map (fun i => (i.zero, i.size, i.bytes)) = some (some ((.int .i64 0)), 1, 8) := by kernel_rfl
def zeros (n : Nat) : Array Value := Array.replicate n ((.int .i64 0))
theorem run_mk (n : Nat) (h1 : n ≤ 1024) (w : World) : (Instr.makeSlice 45 (.int .i64 n) (.int .i64 n)).run Try.prog w = .ok (.slice (some ⟨w.heap.size, 0, none⟩) n n) (w.alloc (.cells (zeros n) 3)) := by
  obtain ⟨i, hi, hz, h2, h3⟩ := info_parts info_e
  have e : madeCells (Value.cells ((.int .i64 0))) (n * i.size) = zeros n := by
    rw [h2, Nat.mul_one]
    apply Array.ext
    · simp [madeCells, zeros]
    · intro j a b
      simp [madeCells, zeros, Value.cells, Nat.mod_one]
  have h := run_make (P := Try.prog) w 45 3 i ((.int .i64 0)) Try.underlying45 hi hz .i64 .i64 n n (by omega) (by omega) (by rw [h3]; omega) (by omega)
  simp only [Int.toNat_natCast, e] at h
  exact h

theorem new (n : Nat) (w : World) (h0 : 0 < n) (h1 : n ≤ 1024) :
    Calls Try.prog 17 #[.int .i64 n] w fun e w' => ∃ q g, e = .returned (.tuple #[.pointer (some ⟨q, 0, none⟩), .int .i64 0]) ∧ w.heap.size ≤ q ∧ w.heap.size ≤ g ∧ q < w'.heap.size ∧ g < w'.heap.size ∧ IsQ w' q g n 0 0 (zeros n) ∧ Below w.heap.size w w' := by
  have hmk := run_mk n h1
  go_enter Try.func17, Try.ntmps17
  go_wp2
  go_ret2
  refine ⟨w.heap.size + 1, w.heap.size, rfl, by omega, by omega, by simp, by (simp; try omega), ⟨?_, ?_, by omega, by simp [zeros], h0, h1, h0, by omega⟩, ((Below.refl _ _).alloc (Nat.le_refl _) _).alloc (by simp) _⟩
  · have := block_new (w.alloc (.cells (zeros n) 3)) (.cells #[.slice (some ⟨w.heap.size, 0, none⟩) n n, .int .i64 0, .int .i64 0] 82)
    simpa using this
  · exact block_alloc (block_new _ _) _
theorem new_no (n : Int) (w : World) (h : n < 1 ∨ 1024 < n) :
    Calls Try.prog 17 #[.int .i64 n] w fun e w' => e = .returned (.tuple #[.pointer none, .int .i64 1]) ∧ w' = w := by
  rcases h with h | h
  · go_enter Try.func17, Try.ntmps17
    go_wp2
    go_ret2
    exact ⟨rfl, rfl⟩
  · have h2 : ¬ n < 1 := by omega
    go_enter Try.func17, Try.ntmps17
    go_wp2
    go_ret2
    exact ⟨rfl, rfl⟩

theorem peek_none {w : World} {q g room first : Nat} {vs : Array Value} (h : IsQ w q g room first 0 vs) :
    Calls Try.prog 21 #[.pointer (some ⟨q, 0, none⟩)] w fun e w' => e = .returned (.tuple #[(.int .i64 0), .bool false]) ∧ ∃ k, w' = w.drewN k := by
  have H := Lib.hid h
  clear h
  go_enter Try.func21, Try.ntmps21
  go_wp2_with fail
  refine (QInt.len H.out).mono ?_
  rintro e w' ⟨rfl, rfl⟩
  go_wp2
  go_ret2
  exact ⟨rfl, 0, rfl⟩
theorem peek (x : Int) {w : World} {q g room first many : Nat} {vs : Array Value} (h : IsQ w q g room first many vs) (hm : 0 < many) (hx : vs[first]? = some (.int .i64 x)) :
    Calls Try.prog 21 #[.pointer (some ⟨q, 0, none⟩)] w fun e w' => e = .returned (.tuple #[.int .i64 x, .bool true]) ∧ ∃ k, w' = w.drewN k := by
  have c0 := h.c0
  have c1 := h.c1
  have b1 := h.first0
  have hcell : w.cell? ⟨g, first, none⟩ = some (.int .i64 x) := by rw [cell_of_block h.hg]; exact hx
  have hm1 : (0 : Int) ≤ (first : Int) := by omega
  have hm2 : (first : Int) < room := by omega
  have h0 : ((many : Int) == 0) = false := beq_eq_false_iff_ne.2 (by omega)
  have H := Lib.hid h
  clear h hx
  go_enter Try.func21, Try.ntmps21
  go_wp2_with fail
  refine (QInt.len H.out).mono ?_
  rintro e w' ⟨rfl, rfl⟩
  go_wp2_with fail
  go_quiet (fail)
  go_wp2
  go_ret2
  exact ⟨rfl, _, rfl⟩
theorem get_none {w : World} {q g room first : Nat} {vs : Array Value} (h : IsQ w q g room first 0 vs) :
    Calls Try.prog 22 #[.pointer (some ⟨q, 0, none⟩)] w fun e w' => e = .returned (.tuple #[(.int .i64 0), .bool false]) ∧ ∃ k, w' = w.drewN k := by
  have H := Lib.hid h
  clear h
  go_enter Try.func22, Try.ntmps22
  go_wp2_with fail
  refine (QInt.peek_none H.out).mono ?_
  rintro e w' ⟨rfl, k, rfl⟩
  go_wp2
  go_ret2
  exact ⟨rfl, _, rfl⟩
theorem get (x : Int) {w : World} {q g room first many : Nat} {vs : Array Value} (h : IsQ w q g room first (many + 1) vs) (hx : vs[first]? = some (.int .i64 x)) :
    Calls Try.prog 22 #[.pointer (some ⟨q, 0, none⟩)] w fun e w' => e = .returned (.tuple #[.int .i64 x, .bool true]) ∧ IsQ w' q g room ((first + 1) % room) many (vs.setIfInBounds first ((.int .i64 0))) ∧ Only (fun k => k = q ∨ k = g) w w' := by
  have c0 := h.c0
  have c1 := h.c1
  have b1 := h.first0
  have b2 := h.roomM
  have b3 := h.many0
  have hcell : w.cell? ⟨g, first, none⟩ = some (.int .i64 x) := by rw [cell_of_block h.hg]; exact hx
  have hfree := h.free first
  have hfq := h.freeq 1
  have hm1 : (0 : Int) ≤ (first : Int) := by omega
  have hm2 : (first : Int) < room := by omega
  have e1 := h.ne
  have e2 := Ne.symm e1
  have H := Lib.hid h
  have HX := Lib.hid hx
  clear h hx
  go_enter Try.func22, Try.ntmps22
  go_wp2_with fail
  refine (QInt.peek _ H.out (by omega) HX.out).mono ?_
  rintro e w' ⟨rfl, k, rfl⟩
  go_wp2_with fail
  go_region
  go_wp2_with fail
  have hq1 := (H.out.drewN (k + 1)).setG first ((.int .i64 0))
  have hO1 : Only (fun k => k = q ∨ k = g) w ((w.drewN (k + 1)).setCell ⟨g, first, none⟩ ((.int .i64 0))) := (Only.drewN (Only.refl _ _) _).setCell (.inr rfl) _
  generalize (w.drewN (k + 1)).setCell ⟨g, first, none⟩ ((.int .i64 0)) = w1 at hq1 hO1 ⊢
  obtain ⟨j, hj⟩ : ∃ j, j = (first + 1) % room := ⟨_, rfl⟩
  have hj0 : j < room := by rw [hj]; exact Nat.mod_lt _ H.out.room0
  have HJ := Lib.hid hj
  clear c0 c1 hcell hfree hfq hj
  refine (place_one hq1 HJ).mono ?_
  rintro e w' ⟨rfl, k2, rfl⟩
  have hq2 := hq1.drewN k2
  have hO2 := hO1.drewN k2
  generalize w1.drewN k2 = w2 at hq2 hO2 ⊢
  have c1 := hq2.c1
  have c2 := hq2.c2
  have f1 := hq2.freeq 1
  have f2 := hq2.freeq 2
  have HQ2 := Lib.hid hq2
  clear hq1 hO1 hq2
  go_wp2
  go_ret2
  refine ⟨rfl, ?_, ?_⟩
  · rw [← HJ.out]
    exact (HQ2.out.setFirst j hj0 rfl).setMany many (by omega) (by omega)
  · exact (hO2.setCell (.inl rfl) _).setCell (.inl rfl) _

/-! ### as lists -/
theorem mod_inj {f i j room : Nat} (hi : i < room) (hj : j < room) (h : (f + i) % room = (f + j) % room) : i = j := by
  have h1 := Nat.div_add_mod (f + i) room
  have h2 := Nat.div_add_mod (f + j) room
  rw [h] at h1
  rcases Nat.lt_trichotomy ((f + i) / room) ((f + j) / room) with h3 | h3 | h3
  · have : room * ((f + i) / room + 1) ≤ room * ((f + j) / room) := Nat.mul_le_mul_left _ h3
    rw [Nat.mul_add] at this
    omega
  · rw [h3] at h1
    omega
  · have : room * ((f + j) / room + 1) ≤ room * ((f + i) / room) := Nat.mul_le_mul_left _ h3
    rw [Nat.mul_add] at this
    omega
/-- the queue in block q holds these, in order -/
def QL (w : World) (q g room : Nat) (xs : List Int) : Prop :=
  ∃ first vs, IsQ w q g room first xs.length vs ∧ ∀ i x, xs[i]? = some x → vs[(first + i) % room]? = some (.int .i64 x)
theorem QL.drewN {w : World} {q g room : Nat} {xs : List Int} (h : QL w q g room xs) (n : Nat) : QL (w.drewN n) q g room xs := by
  obtain ⟨first, vs, h, hx⟩ := h
  exact ⟨first, vs, h.drewN n, hx⟩
theorem QL.le {w : World} {q g room : Nat} {xs : List Int} (h : QL w q g room xs) : xs.length ≤ room ∧ q ≠ g ∧ q < w.heap.size ∧ g < w.heap.size ∧ 0 < room ∧ room ≤ 1024 := by
  obtain ⟨first, vs, h, hx⟩ := h
  exact ⟨h.many0, h.ne, lt_of_block h.hq, lt_of_block h.hg, h.room0, h.roomM⟩
theorem QL.kept {w w' : World} {q g room : Nat} {xs : List Int} (h : QL w q g room xs) (hq : w'.heap[q]? = w.heap[q]?) (hg : w'.heap[g]? = w.heap[g]?) : QL w' q g room xs := by
  obtain ⟨first, vs, h, hx⟩ := h
  exact ⟨first, vs, ⟨hq.trans h.hq, hg.trans h.hg, h.ne, h.size, h.room0, h.roomM, h.first0, h.many0⟩, hx⟩
theorem new_list (n : Nat) (w : World) (h0 : 0 < n) (h1 : n ≤ 1024) :
    Calls Try.prog 17 #[.int .i64 n] w fun e w' => ∃ q g, e = .returned (.tuple #[.pointer (some ⟨q, 0, none⟩), .int .i64 0]) ∧ w.heap.size ≤ q ∧ w.heap.size ≤ g ∧ QL w' q g n [] ∧ Below w.heap.size w w' := by
  refine (new n w h0 h1).mono ?_
  rintro e w' ⟨q, g, he, hq, hg, _, _, hI, hb⟩
  exact ⟨q, g, he, hq, hg, ⟨0, _, hI, by simp⟩, hb⟩
theorem put_list (x : Int) {w : World} {q g room : Nat} {xs : List Int} (h : QL w q g room xs) (hl : xs.length < room) :
    Calls Try.prog 18 #[.pointer (some ⟨q, 0, none⟩), .int .i64 x] w fun e w' => e = .returned (.int .i64 0) ∧ QL w' q g room (xs ++ [x]) ∧ Only (fun k => k = q ∨ k = g) w w' := by
  obtain ⟨first, vs, h, hx⟩ := h
  refine (put x h hl).mono ?_
  rintro e w' ⟨he, hI, hO⟩
  refine ⟨he, ⟨first, _, by simpa using hI, ?_⟩, hO⟩
  intro i y hy
  have hpl := Nat.mod_lt (first + xs.length) h.room0
  rw [Array.getElem?_setIfInBounds]
  rcases Nat.lt_or_ge i xs.length with hi | hi
  · rw [if_neg (fun e => by have := mod_inj hl (by omega) e; omega)]
    rw [List.getElem?_append_left hi] at hy
    exact hx i y hy
  · rw [List.getElem?_append_right hi] at hy
    have : i = xs.length := by
      rcases Nat.eq_zero_or_pos (i - xs.length) with h0 | h0
      · omega
      · rw [List.getElem?_eq_none (by simp; omega)] at hy
        cases hy
    subst this
    simp at hy
    subst hy
    rw [if_pos rfl, if_pos (by rw [h.size]; exact hpl)]
theorem putf_list (x : Int) {w : World} {q g room : Nat} {xs : List Int} (h : QL w q g room xs) (hl : xs.length = room) :
    Calls Try.prog 18 #[.pointer (some ⟨q, 0, none⟩), .int .i64 x] w fun e w' => e = .returned (.int .i64 6) ∧ ∃ k, w' = w.drewN k := by
  obtain ⟨first, vs, h, hx⟩ := h
  rw [hl] at h
  exact put_full x h
theorem get_list (x : Int) {w : World} {q g room : Nat} {xs : List Int} (h : QL w q g room (x :: xs)) :
    Calls Try.prog 22 #[.pointer (some ⟨q, 0, none⟩)] w fun e w' => e = .returned (.tuple #[.int .i64 x, .bool true]) ∧ QL w' q g room xs ∧ Only (fun k => k = q ∨ k = g) w w' := by
  obtain ⟨first, vs, h, hx⟩ := h
  have h0 := hx 0 x rfl
  rw [Nat.add_zero, Nat.mod_eq_of_lt h.first0] at h0
  refine (get x (many := xs.length) h h0).mono ?_
  rintro e w' ⟨he, hI, hO⟩
  refine ⟨he, ⟨_, _, hI, ?_⟩, hO⟩
  intro i y hy
  have hi : i < xs.length := (List.getElem?_eq_some_iff.1 hy).1
  have hm := h.many0
  simp at hm
  have e1 : ((first + 1) % room + i) % room = (first + (i + 1)) % room := by
    rw [Nat.mod_add_mod]
    congr 1
    omega
  rw [e1, Array.getElem?_setIfInBounds, if_neg]
  · exact hx (i + 1) y (by simpa using hy)
  · intro e
    have : first % room = first := Nat.mod_eq_of_lt h.first0
    have e2 : (first + 0) % room = (first + (i + 1)) % room := by rw [Nat.add_zero, this]; exact e
    have := mod_inj h.room0 (by omega) e2
    omega
theorem getn_list {w : World} {q g room : Nat} (h : QL w q g room []) :
    Calls Try.prog 22 #[.pointer (some ⟨q, 0, none⟩)] w fun e w' => e = .returned (.tuple #[(.int .i64 0), .bool false]) ∧ ∃ k, w' = w.drewN k := by
  obtain ⟨first, vs, h, hx⟩ := h
  exact get_none h
theorem len_list {w : World} {q g room : Nat} {xs : List Int} (h : QL w q g room xs) :
    Calls Try.prog 24 #[.pointer (some ⟨q, 0, none⟩)] w fun e w' => e = .returned (.int .i64 xs.length) ∧ w' = w := by
  obtain ⟨first, vs, h, hx⟩ := h
  exact len h
-- INT ONLY
theorem room_list {w : World} {q g room : Nat} {xs : List Int} (h : QL w q g room xs) :
    Calls Try.prog 25 #[.pointer (some ⟨q, 0, none⟩)] w fun e w' => e = .returned (.int .i64 (room - xs.length : Nat)) ∧ ∃ k, w' = w.drewN k := by
  obtain ⟨first, vs, h, hx⟩ := h
  exact QInt.room h
theorem peek_list (x : Int) {w : World} {q g room : Nat} {xs : List Int} (h : QL w q g room (x :: xs)) :
    Calls Try.prog 21 #[.pointer (some ⟨q, 0, none⟩)] w fun e w' => e = .returned (.tuple #[.int .i64 x, .bool true]) ∧ ∃ k, w' = w.drewN k := by
  obtain ⟨first, vs, h, hx⟩ := h
  have h0 := hx 0 x rfl
  rw [Nat.add_zero, Nat.mod_eq_of_lt h.first0] at h0
  exact peek x h (by simp) h0
theorem peekn_list {w : World} {q g room : Nat} (h : QL w q g room []) :
    Calls Try.prog 21 #[.pointer (some ⟨q, 0, none⟩)] w fun e w' => e = .returned (.tuple #[(.int .i64 0), .bool false]) ∧ ∃ k, w' = w.drewN k := by
  obtain ⟨first, vs, h, hx⟩ := h
  exact peek_none h
-- END INT ONLY

end Go.Proofs.Ytclpjmhanhocoaa.QInt
