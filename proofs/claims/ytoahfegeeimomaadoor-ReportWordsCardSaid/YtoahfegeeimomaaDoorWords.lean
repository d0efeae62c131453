/- report's small functions, and the reference's: words put together, kinds, letters, errors' names. Conditions: as stated in each theorem. -/
import Derived.Test.YtoahfegeeimomaaDoorName
import Derived.Great.BuildSlice
set_option linter.unusedVariables false
set_option linter.unusedSimpArgs false
namespace Go.Proofs.YtoahfegeeimomaaDoor.Words
open Go.RowKit Base Go.Lib Name
set_option maxRecDepth 100000

def kindsV : Array Value := #[.string ⟨#[110, 111, 110, 101]⟩, .string ⟨#[105, 110, 115, 101, 114, 116]⟩, .string ⟨#[99, 108, 97, 105, 109]⟩, .string ⟨#[114, 101, 108, 101, 97, 115, 101]⟩, .string ⟨#[99, 111, 109, 112, 108, 101, 116, 101]⟩, .string ⟨#[101, 120, 112, 105, 114, 101]⟩, .string ⟨#[114, 101, 115, 101, 114, 118, 101]⟩, .string ⟨#[99, 111, 109, 109, 105, 116]⟩, .string ⟨#[114, 101, 116, 117, 114, 110]⟩, .string ⟨#[114, 101, 115, 121, 110, 99]⟩, .string ⟨#[100, 114, 111, 112]⟩]
def kindW (n : Int) : ByteArray := match n with
  | 0 => ⟨#[110, 111, 110, 101]⟩
  | 1 => ⟨#[105, 110, 115, 101, 114, 116]⟩
  | 2 => ⟨#[99, 108, 97, 105, 109]⟩
  | 3 => ⟨#[114, 101, 108, 101, 97, 115, 101]⟩
  | 4 => ⟨#[99, 111, 109, 112, 108, 101, 116, 101]⟩
  | 5 => ⟨#[101, 120, 112, 105, 114, 101]⟩
  | 6 => ⟨#[114, 101, 115, 101, 114, 118, 101]⟩
  | 7 => ⟨#[99, 111, 109, 109, 105, 116]⟩
  | 8 => ⟨#[114, 101, 116, 117, 114, 110]⟩
  | 9 => ⟨#[114, 101, 115, 121, 110, 99]⟩
  | 10 => ⟨#[100, 114, 111, 112]⟩
  | _ => ⟨#[110, 111, 110, 101]⟩
theorem kindW_at (n : Nat) (h : n < 11) : kindsV[n]? = some (.string (kindW n)) := by
  match n, h with
  | 0, _ => rfl
  | 1, _ => rfl
  | 2, _ => rfl
  | 3, _ => rfl
  | 4, _ => rfl
  | 5, _ => rfl
  | 6, _ => rfl
  | 7, _ => rfl
  | 8, _ => rfl
  | 9, _ => rfl
  | 10, _ => rfl
  | n + 11, h => exact absurd h (by omega)
theorem kindW_out (n : Int) (h : n < 0 ∨ 10 < n) : kindW n = ⟨#[110, 111, 110, 101]⟩ := by
  unfold kindW
  split <;> first | rfl | (exfalso; omega)
theorem kindW_size (n : Int) : (kindW n).size ≤ 9 := by
  unfold kindW
  split <;> decide
def errsV : Array Value := #[.string ⟨#[111, 107]⟩, .string ⟨#[97, 114, 103]⟩, .string ⟨#[115, 104, 111, 114, 116]⟩, .string ⟨#[102, 111, 114, 109]⟩, .string ⟨#[108, 111, 110, 103]⟩, .string ⟨#[114, 97, 110, 103, 101]⟩, .string ⟨#[102, 117, 108, 108]⟩, .string ⟨#[101, 120, 105, 115, 116, 115]⟩, .string ⟨#[110, 111, 110, 101]⟩, .string ⟨#[110, 111, 116, 32, 111, 119, 110, 101, 114]⟩, .string ⟨#[115, 116, 97, 116, 101]⟩, .string ⟨#[101, 120, 104, 97, 117, 115, 116, 101, 100]⟩, .string ⟨#[101, 112, 111, 99, 104]⟩, .string ⟨#[110, 111, 110, 99, 101]⟩, .string ⟨#[112, 111, 111, 108]⟩, .string ⟨#[114, 101, 100, 117, 110, 100, 97, 110, 116]⟩, .string ⟨#[114, 101, 106, 101, 99, 116, 101, 100]⟩, .string ⟨#[99, 108, 111, 115, 101, 100]⟩, .string ⟨#[112, 114, 111, 111, 102]⟩, .string ⟨#[111, 114, 100, 101, 114]⟩, .string ⟨#[108, 97, 116, 101]⟩, .string ⟨#[101, 97, 114, 108, 121]⟩, .string ⟨#[99, 114, 97, 115, 104]⟩, .string ⟨#[115, 116, 111, 112, 112, 101, 100]⟩, .string ⟨#[97, 99, 99, 111, 117, 110, 116]⟩, .string ⟨#[99, 104, 97, 110, 110, 101, 108]⟩]
def errW (n : Int) : ByteArray := match n with
  | 0 => ⟨#[111, 107]⟩
  | 1 => ⟨#[97, 114, 103]⟩
  | 2 => ⟨#[115, 104, 111, 114, 116]⟩
  | 3 => ⟨#[102, 111, 114, 109]⟩
  | 4 => ⟨#[108, 111, 110, 103]⟩
  | 5 => ⟨#[114, 97, 110, 103, 101]⟩
  | 6 => ⟨#[102, 117, 108, 108]⟩
  | 7 => ⟨#[101, 120, 105, 115, 116, 115]⟩
  | 8 => ⟨#[110, 111, 110, 101]⟩
  | 9 => ⟨#[110, 111, 116, 32, 111, 119, 110, 101, 114]⟩
  | 10 => ⟨#[115, 116, 97, 116, 101]⟩
  | 11 => ⟨#[101, 120, 104, 97, 117, 115, 116, 101, 100]⟩
  | 12 => ⟨#[101, 112, 111, 99, 104]⟩
  | 13 => ⟨#[110, 111, 110, 99, 101]⟩
  | 14 => ⟨#[112, 111, 111, 108]⟩
  | 15 => ⟨#[114, 101, 100, 117, 110, 100, 97, 110, 116]⟩
  | 16 => ⟨#[114, 101, 106, 101, 99, 116, 101, 100]⟩
  | 17 => ⟨#[99, 108, 111, 115, 101, 100]⟩
  | 18 => ⟨#[112, 114, 111, 111, 102]⟩
  | 19 => ⟨#[111, 114, 100, 101, 114]⟩
  | 20 => ⟨#[108, 97, 116, 101]⟩
  | 21 => ⟨#[101, 97, 114, 108, 121]⟩
  | 22 => ⟨#[99, 114, 97, 115, 104]⟩
  | 23 => ⟨#[115, 116, 111, 112, 112, 101, 100]⟩
  | 24 => ⟨#[97, 99, 99, 111, 117, 110, 116]⟩
  | 25 => ⟨#[99, 104, 97, 110, 110, 101, 108]⟩
  | _ => ⟨#[117, 110, 107, 110, 111, 119, 110]⟩
theorem errW_at (n : Nat) (h : n < 26) : errsV[n]? = some (.string (errW n)) := by
  match n, h with
  | 0, _ => rfl
  | 1, _ => rfl
  | 2, _ => rfl
  | 3, _ => rfl
  | 4, _ => rfl
  | 5, _ => rfl
  | 6, _ => rfl
  | 7, _ => rfl
  | 8, _ => rfl
  | 9, _ => rfl
  | 10, _ => rfl
  | 11, _ => rfl
  | 12, _ => rfl
  | 13, _ => rfl
  | 14, _ => rfl
  | 15, _ => rfl
  | 16, _ => rfl
  | 17, _ => rfl
  | 18, _ => rfl
  | 19, _ => rfl
  | 20, _ => rfl
  | 21, _ => rfl
  | 22, _ => rfl
  | 23, _ => rfl
  | 24, _ => rfl
  | 25, _ => rfl
  | n + 26, h => exact absurd h (by omega)
theorem errW_out (n : Int) (h : n < 0 ∨ 25 < n) : errW n = ⟨#[117, 110, 107, 110, 111, 119, 110]⟩ := by
  unfold errW
  split <;> first | rfl | (exfalso; omega)
theorem errW_size (n : Int) : (errW n).size ≤ 9 := by
  unfold errW
  split <;> decide
set_option maxHeartbeats 1000000 in
theorem kind_any_lo (n : Int) (h0 : n < 0) (w : World) : Calls Tryd.prog 17 #[.int .i64 n] w fun e w' => e = .returned (.string (kindW n)) ∧ Below w.heap.size w w' := by
  rw [kindW_out n (.inl h0)]
  go_enter Tryd.func17, Tryd.ntmps17
  go_wp2
  go_ret
  exact ⟨rfl, (Below.refl _ _).alloc (Nat.le_refl _) _⟩
set_option maxHeartbeats 1000000 in
theorem kind_any_hi (n : Int) (h1 : 10 < n) (w : World) : Calls Tryd.prog 17 #[.int .i64 n] w fun e w' => e = .returned (.string (kindW n)) ∧ Below w.heap.size w w' := by
  have h2 : ¬ n < 0 := by omega
  have h3 : ¬ n < 11 := by omega
  rw [kindW_out n (.inr h1)]
  go_enter Tryd.func17, Tryd.ntmps17
  go_wp2
  go_ret
  exact ⟨rfl, (Below.refl _ _).alloc (Nat.le_refl _) _⟩
set_option maxHeartbeats 1000000 in
theorem kind_any_at (k : Nat) (hk : k < 11) (w : World) : Calls Tryd.prog 17 #[.int .i64 (k : Int)] w fun e w' => e = .returned (.string (kindW (k : Int))) ∧ Below w.heap.size w w' := by
    have hc : (w.alloc (.cells kindsV 75)).cell? ⟨w.heap.size, k, none⟩ = some (.string (kindW k)) := (World.cell?_alloc_new w _ _ k).trans (kindW_at k hk)
    unfold kindsV at hc
    go_enter Tryd.func17, Tryd.ntmps17
    go_wp2
    go_ret
    exact ⟨rfl, (Below.refl _ _).alloc (Nat.le_refl _) _⟩
theorem kind_any (n : Int) (w : World) : Calls Tryd.prog 17 #[.int .i64 n] w fun e w' => e = .returned (.string (kindW n)) ∧ Below w.heap.size w w' := by
  rcases Int.lt_or_le n 0 with h0 | h0
  · exact kind_any_lo n h0 w
  · rcases Int.lt_or_le 10 n with h1 | h1
    · exact kind_any_hi n h1 w
    · obtain ⟨k, rfl⟩ := Int.eq_ofNat_of_zero_le h0
      exact kind_any_at k (by omega) w
theorem below_setRow (w : World) (o : Obj) (g : Nat) (cs : Array Value) (hg : g = w.heap.size := by rfl) : Below w.heap.size w ((w.alloc o).setRow g cs) := by
  subst hg
  have h := (Below.refl w.heap.size w).alloc (Nat.le_refl _) o
  refine ⟨h.os, h.tape, h.output, by rw [setRow_size]; exact h.size, fun i hi => ?_⟩
  rw [setRow_other _ _ _ _ (Nat.ne_of_lt hi)]
  exact h.block i hi
def errsZ : Array Value := #[.string ⟨#[]⟩, .string ⟨#[]⟩, .string ⟨#[]⟩, .string ⟨#[]⟩, .string ⟨#[]⟩, .string ⟨#[]⟩, .string ⟨#[]⟩, .string ⟨#[]⟩, .string ⟨#[]⟩, .string ⟨#[]⟩, .string ⟨#[]⟩, .string ⟨#[]⟩, .string ⟨#[]⟩, .string ⟨#[]⟩, .string ⟨#[]⟩, .string ⟨#[]⟩, .string ⟨#[]⟩, .string ⟨#[]⟩, .string ⟨#[]⟩, .string ⟨#[]⟩, .string ⟨#[]⟩, .string ⟨#[]⟩, .string ⟨#[]⟩, .string ⟨#[]⟩, .string ⟨#[]⟩, .string ⟨#[]⟩]
set_option maxHeartbeats 1000000 in
theorem error_any_lo (n : Int) (h0 : n < 0) (w : World) : Calls Tryd.prog 26 #[.int .i64 n] w fun e w' => e = .returned (.string (errW n)) ∧ Below w.heap.size w w' := by
  rw [errW_out n (.inl h0)]
  go_enter Tryd.func26, Tryd.ntmps26
  go_wp2_with (first | (refine wpList_buildTo rfl 77 _ rfl (some 4) rfl errsV (by as_aux_lemma => kernel_rfl) ?_) | (refine wpList_store_rowTo rfl 77 _ _ rfl rfl w.heap.size errsV rfl rfl 77 _ (heap_alloc_new _ _) (by as_aux_lemma => kernel_rfl) (by as_aux_lemma => kernel_rfl) (by as_aux_lemma => kernel_rfl) ?_))
  go_ret
  exact ⟨rfl, below_setRow w _ _ _ rfl⟩
set_option maxHeartbeats 1000000 in
theorem error_any_hi (n : Int) (h1 : 25 < n) (w : World) : Calls Tryd.prog 26 #[.int .i64 n] w fun e w' => e = .returned (.string (errW n)) ∧ Below w.heap.size w w' := by
  have h2 : ¬ n < 0 := by omega
  have h3 : ¬ n < 26 := by omega
  rw [errW_out n (.inr h1)]
  go_enter Tryd.func26, Tryd.ntmps26
  go_wp2_with (first | (refine wpList_buildTo rfl 77 _ rfl (some 4) rfl errsV (by as_aux_lemma => kernel_rfl) ?_) | (refine wpList_store_rowTo rfl 77 _ _ rfl rfl w.heap.size errsV rfl rfl 77 _ (heap_alloc_new _ _) (by as_aux_lemma => kernel_rfl) (by as_aux_lemma => kernel_rfl) (by as_aux_lemma => kernel_rfl) ?_))
  go_ret
  exact ⟨rfl, below_setRow w _ _ _ rfl⟩
set_option maxHeartbeats 1000000 in
theorem error_any_at (k : Nat) (hk : k < 26) (w : World) : Calls Tryd.prog 26 #[.int .i64 (k : Int)] w fun e w' => e = .returned (.string (errW (k : Int))) ∧ Below w.heap.size w w' := by
    have hc : ((w.alloc (.cells errsZ 77)).setRow w.heap.size errsV).cell? ⟨w.heap.size, k, none⟩ = some (.string (errW k)) := (cell_setRow_same _ _ _ _ _ _ _ (heap_alloc_new _ _)).trans (errW_at k hk)
    unfold errsZ at hc
    go_enter Tryd.func26, Tryd.ntmps26
    go_wp2_with (first | (refine wpList_buildTo rfl 77 _ rfl (some 4) rfl errsV (by as_aux_lemma => kernel_rfl) ?_) | (refine wpList_store_rowTo rfl 77 _ _ rfl rfl w.heap.size errsV rfl rfl 77 _ (heap_alloc_new _ _) (by as_aux_lemma => kernel_rfl) (by as_aux_lemma => kernel_rfl) (by as_aux_lemma => kernel_rfl) ?_))
    go_ret
    exact ⟨rfl, below_setRow w _ _ _ rfl⟩
theorem error_any (n : Int) (w : World) : Calls Tryd.prog 26 #[.int .i64 n] w fun e w' => e = .returned (.string (errW n)) ∧ Below w.heap.size w w' := by
  rcases Int.lt_or_le n 0 with h0 | h0
  · exact error_any_lo n h0 w
  · rcases Int.lt_or_le 25 n with h1 | h1
    · exact error_any_hi n h1 w
    · obtain ⟨k, rfl⟩ := Int.eq_ofNat_of_zero_le h0
      exact error_any_at k (by omega) w
set_option maxHeartbeats 1000000 in
theorem word_any_lo (n : Int) (h0 : n < 0) (w : World) : Calls Tryd.prog 27 #[.int .i64 n] w fun e w' => e = .returned (.string (errW n)) ∧ Below w.heap.size w w' := by
  rw [errW_out n (.inl h0)]
  go_enter Tryd.func27, Tryd.ntmps27
  go_wp2
  go_ret
  exact ⟨rfl, (Below.refl _ _).alloc (Nat.le_refl _) _⟩
set_option maxHeartbeats 1000000 in
theorem word_any_hi (n : Int) (h1 : 25 < n) (w : World) : Calls Tryd.prog 27 #[.int .i64 n] w fun e w' => e = .returned (.string (errW n)) ∧ Below w.heap.size w w' := by
  have h2 : ¬ n < 0 := by omega
  have h3 : ¬ n < 26 := by omega
  rw [errW_out n (.inr h1)]
  go_enter Tryd.func27, Tryd.ntmps27
  go_wp2
  go_ret
  exact ⟨rfl, (Below.refl _ _).alloc (Nat.le_refl _) _⟩
set_option maxHeartbeats 1000000 in
theorem word_any_at (k : Nat) (hk : k < 26) (w : World) : Calls Tryd.prog 27 #[.int .i64 (k : Int)] w fun e w' => e = .returned (.string (errW (k : Int))) ∧ Below w.heap.size w w' := by
    have hc : (w.alloc (.cells errsV 9)).cell? ⟨w.heap.size, k, none⟩ = some (.string (errW k)) := (World.cell?_alloc_new w _ _ k).trans (errW_at k hk)
    unfold errsV at hc
    go_enter Tryd.func27, Tryd.ntmps27
    go_wp2
    go_ret
    exact ⟨rfl, (Below.refl _ _).alloc (Nat.le_refl _) _⟩
theorem word_any (n : Int) (w : World) : Calls Tryd.prog 27 #[.int .i64 n] w fun e w' => e = .returned (.string (errW n)) ∧ Below w.heap.size w w' := by
  rcases Int.lt_or_le n 0 with h0 | h0
  · exact word_any_lo n h0 w
  · rcases Int.lt_or_le 25 n with h1 | h1
    · exact word_any_hi n h1 w
    · obtain ⟨k, rfl⟩ := Int.eq_ofNat_of_zero_le h0
      exact word_any_at k (by omega) w
theorem side_any (n : Int) (w : World) : Calls Tryd.prog 20 #[.int .i64 n] w fun e w' => e = .returned (.string (side n)) ∧ Below w.heap.size w w' := by
  by_cases h : n = 0
  · have hr : side n = ⟨#[97]⟩ := by simp [side, h]
    rw [hr]
    clear hr
    subst h
    go_enter Tryd.func20, Tryd.ntmps20
    go_wp2
    go_ret
    exact ⟨rfl, Below.refl _ _⟩
  · have hr : side n = ⟨#[98]⟩ := by simp [side, h]
    have hb : (n == 0) = false := beq_eq_false_iff_ne.2 h
    rw [hr]
    clear hr h
    go_enter Tryd.func20, Tryd.ntmps20
    go_wp2
    go_ret
    exact ⟨rfl, Below.refl _ _⟩
theorem letter_any (n : Int) (w : World) : Calls Tryd.prog 24 #[.int .i64 n] w fun e w' => e = .returned (.string (side n)) ∧ Below w.heap.size w w' := by
  by_cases h : n = 0
  · have hr : side n = ⟨#[97]⟩ := by simp [side, h]
    rw [hr]
    clear hr
    subst h
    go_enter Tryd.func24, Tryd.ntmps24
    go_wp2
    go_ret
    exact ⟨rfl, Below.refl _ _⟩
  · have hr : side n = ⟨#[98]⟩ := by simp [side, h]
    have hb : (n == 0) = false := beq_eq_false_iff_ne.2 h
    rw [hr]
    clear hr h
    go_enter Tryd.func24, Tryd.ntmps24
    go_wp2
    go_ret
    exact ⟨rfl, Below.refl _ _⟩
theorem num_any (u : Nat) (hu : u < 18446744073709551616) (w : World) (htab : Lib.TabIs Tryd.prog w "internal/strconv.uint64pow10" .u64 Lib.pow10Tab) :
    Calls Tryd.prog 21 #[.int .u64 u] w fun e w' => e = .returned (.string (D u)) ∧ Below w.heap.size w w' := by
  go_enter Tryd.func21, Tryd.ntmps21
  go_wp2_with fail
  refine (uintD u hu w htab).mono ?_
  rintro e w1 ⟨rfl, hb⟩
  go_wp2_with fail
  go_ret
  exact ⟨rfl, hb⟩
def sp : ByteArray := ⟨#[32]⟩
theorem ba_ext {a b : ByteArray} (h : a.data.toList = b.data.toList) : a = b := by
  cases a with | mk a => cases b with | mk b => congr 1; exact Array.toList_inj.1 h
theorem join2 (a b : ByteArray) : (⟨(Lib.join ([a, b].map (·.data.toList)) [32]).toArray⟩ : ByteArray) = a ++ sp ++ b := by
  apply ba_ext
  simp [Lib.join, sp]
theorem words_any (bk c : Nat) (xs : List ByteArray) (w : World) (hbk : bk < w.heap.size) (hblk : w.heap[bk]? = some (.cells (xs.map Value.string).toArray 9 (0, 0))) (hN : xs.length ≤ 140737488355328) (hcap : xs.length ≤ c) (r : ByteArray) (hr : (⟨(Lib.join (xs.map (·.data.toList)) [32]).toArray⟩ : ByteArray) = r) (hlen : r.size ≤ 140737488355328) :
    Calls Tryd.prog 16 #[.slice (some ⟨bk, 0, none⟩) xs.length c] w fun e w' => e = .returned (.string r) ∧ Below w.heap.size w w' := by
  have hj := Tryd.strings_Join bk 0 c xs sp w (fun j x hx => by
    rw [cell_of_block hblk]
    simp [hx]) hbk hN hcap (by rw [← hr] at hlen; simpa [sp, ByteArray.size] using hlen)
  have hr' : (⟨(Lib.join (xs.map (·.data.toList)) sp.data.toList).toArray⟩ : ByteArray) = r := by rw [← hr]; rfl
  rw [hr'] at hj
  have HJ := Lib.hid hj
  clear hj hr' hr hblk hN hcap hlen hbk
  go_enter Tryd.func16, Tryd.ntmps16
  go_wp2_with fail
  refine HJ.out.mono ?_
  rintro e w1 ⟨rfl, hb⟩
  go_wp2_with fail
  go_ret
  exact ⟨rfl, hb⟩
end Go.Proofs.YtoahfegeeimomaaDoor.Words
