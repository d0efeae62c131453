/- The walks of digit.Num (contract: its bytes are those of 'numI'). Conditions: none beyond those stated (the number is a uint64). -/
import Derived.Test.YtclpjmhanhocoaaRows
import Derived.WalkKit
import Derived.WalkSpells
import Derived.WalkLawsBesides
import Derived.BigQuiet
import Derived.Lib.Hide
set_option linter.unusedVariables false
set_option linter.unusedSimpArgs false
namespace Go.Proofs.Ytclpjmhanhocoaa.Digit
open Go.RowKit
set_option maxRecDepth 100000

def byteOf (n j : Nat) : Nat := n / 256 ^ j % 256
/-- the array behind k rounds -/
def arr (n k : Nat) : Array Value := ((List.range 9).map fun i => Value.int .u8 (if 9 ≤ i + k then (byteOf n (8 - i) : Nat) else 0 : Nat)).toArray
theorem arr_size (n k : Nat) : (arr n k).size = 9 := by simp [arr]
theorem arr_zero (n : Nat) : arr n 0 = #[Value.int IntKind.u8 0, Value.int IntKind.u8 0, Value.int IntKind.u8 0, Value.int IntKind.u8 0,
      Value.int IntKind.u8 0, Value.int IntKind.u8 0, Value.int IntKind.u8 0, Value.int IntKind.u8 0,
      Value.int IntKind.u8 0] := by
  simp [arr, List.range, List.range.loop]
theorem arr_at (n k : Nat) (hk : k ≤ 8) : (arr n k)[8 - k]? = some (.int .u8 0) := by
  have : ¬ 9 ≤ 8 - k + k := by omega
  simp [arr, List.getElem?_range, show 8 - k < 9 by omega, this]
theorem arr_succ (n k : Nat) (hk : k ≤ 8) : (arr n k).setIfInBounds (8 - k) (.int .u8 ((n : Int) / 256 ^ k % 256)) = arr n (k + 1) := by
  apply Array.ext
  · simp [arr]
  · intro i h1 h2
    simp only [arr_size, Array.size_setIfInBounds] at h1 h2
    rw [Array.getElem_setIfInBounds (by simpa [arr_size] using h1)]
    by_cases e : 8 - k = i
    · rw [if_pos e]
      subst e
      simp [arr, byteOf, show 9 ≤ 8 - k + (k + 1) by omega, show 8 - (8 - k) = k by omega]
    · rw [if_neg e]
      by_cases e2 : 9 ≤ i + k
      · simp [arr, e2, show 9 ≤ i + (k + 1) by omega]
      · simp [arr, e2, show ¬ 9 ≤ i + (k + 1) by omega]

/-- the bytes of a number, the great ones ahead -/
def be (n : Nat) : List Int := if h : n = 0 then [] else be (n / 256) ++ [((n % 256 : Nat) : Int)]
  termination_by n
  decreasing_by omega
theorem be_zero : be 0 = [] := by rw [be]; simp
theorem be_pos {n : Nat} (h : n ≠ 0) : be n = be (n / 256) ++ [((n % 256 : Nat) : Int)] := by rw [be, dif_neg h]
/-- Num -/
def numI (n : Nat) : List Int := ((be n).length : Int) :: be n
theorem be_len : ∀ (k n : Nat), n / 256 ^ k = 0 → (0 < k → n / 256 ^ (k - 1) ≠ 0) → (be n).length = k := by
  intro k
  induction k with
  | zero => intro n h _; simp at h; subst h; rw [be_zero]; rfl
  | succ k ih =>
    intro n h h1
    have hn : n ≠ 0 := fun e => by subst e; simp at h1
    rw [be_pos hn, List.length_append, ih (n / 256)]
    · rfl
    · rw [Nat.div_div_eq_div_mul, ← Nat.pow_succ']; exact h
    · intro hk
      have := h1 (by omega)
      rw [Nat.div_div_eq_div_mul, ← Nat.pow_succ', show (k - 1).succ = k + 1 - 1 by omega]; exact this
theorem be_getD : ∀ (k n : Nat), (be n).length = k → ∀ i, i < k → (be n).getD i 0 = (byteOf n (k - 1 - i) : Nat) := by
  intro k
  induction k with
  | zero => intro n _ i hi; omega
  | succ k ih =>
    intro n h i hi
    have hn : n ≠ 0 := fun e => by subst e; rw [be_zero] at h; simp at h
    rw [be_pos hn] at h ⊢
    have hl : (be (n / 256)).length = k := by simpa using h
    rcases Nat.lt_or_ge i k with hik | hik
    · rw [List.getD_eq_getElem?_getD, List.getElem?_append_left (by omega), ← List.getD_eq_getElem?_getD, ih _ hl i hik]
      unfold byteOf
      rw [Nat.div_div_eq_div_mul, ← Nat.pow_succ', show (k - 1 - i).succ = k + 1 - 1 - i by omega]
    · rw [List.getD_eq_getElem?_getD, List.getElem?_append_right (by omega), show i - (be (n / 256)).length = 0 by omega, show k + 1 - 1 - i = 0 by omega]
      simp [byteOf]

theorem slice_run (b k : Nat) (hk : k ≤ 8) (wx : World) : (Instr.sliceAt 99 (.pointer (some ⟨b, 0, none⟩)) (some (.int .i64 (8 - (k : Int)))) none none).run Try.prog wx = .ok (.slice (some ⟨b, 8 - k, none⟩) (k + 1) (k + 1)) wx := by
  have h2 : Try.prog.arrayLen 99 = 9 := by kernel_rfl
  rw [run_sliceAt_array_l wx 99 _ (by kernel_rfl) .i64 (8 - (k : Int)) (by omega) (by rw [h2]; omega)]
  have h1 : ∀ wx : World, (sizeOf (Try.prog.elem 99)).run Try.prog wx = .ok 1 wx := fun _ => by kernel_rfl
  have h3 : (8 - (k : Int)).toNat = 8 - k := by omega
  simp only [h1, Result.andThen, h2, h3, slicedAt]
  rw [if_neg (by omega), Nat.mul_one, show 9 - (8 - k) = k + 1 by omega]
  have h4 : ∀ j b, (⟨b, 0, none⟩ : Addr).add j = ⟨b, j, none⟩ := by intro j b; unfold Addr.add; split <;> simp_all
  rw [h4]
theorem conv_run (n k : Nat) (w : World) (hk : k ≤ 8) (hl : (be n).length = k) :
    (convert 93 9 (.slice (some ⟨w.heap.size, 8 - k, none⟩) (k + 1) (k + 1))).run Try.prog (w.alloc (.cells ((arr n k).setIfInBounds (8 - k) (.int .u8 (8 - (8 - (k : Int))))) 99))
          = .ok (.string (strOfNums (numI n))) (w.alloc (.cells ((arr n k).setIfInBounds (8 - k) (.int .u8 (8 - (8 - (k : Int))))) 99)) := by
  refine run_convert_bytes_arg _ 93 5 Try.underlying93 Try.underlying5 _ _ _ _ (numI n) (by simp [numI, hl]) ?_ 9 Try.underlying9
  intro i hi
  have hc : ∀ (o : Nat) (c : Array Value), (w.alloc (.cells c 99)).cell? ⟨w.heap.size, o, none⟩ = c[o]? := by
    intro o c
    simp [World.cell?, World.alloc, -World.alloc_eq]
  rw [hc, Array.getElem?_setIfInBounds, arr_size]
  rcases Nat.eq_zero_or_pos i with h0 | h0
  · subst h0
    rw [if_pos (by omega), if_pos (by omega)]
    simp [numI, hl]
    omega
  · rw [if_neg (by omega)]
    have h9 : 9 ≤ 8 - k + i + k := by omega
    have hg : (numI n).getD i 0 = (be n).getD (i - 1) 0 := by
      obtain ⟨j, rfl⟩ : ∃ j, i = j + 1 := ⟨i - 1, by omega⟩
      simp [numI]
    rw [hg, be_getD k n hl (i - 1) (by omega)]
    simp [arr, List.getElem?_range, show 8 - k + i < 9 by omega, h9, show 8 - (8 - k + i) = k - 1 - (i - 1) by omega]

set_option maxHeartbeats 1000000 in
theorem num (n : Nat) (w : World) (hn : n < 18446744073709551616) :
    Calls Try.prog 55 #[.int .u64 n] w fun e w' => e = .returned (.string (strOfNums (numI n))) ∧ Below w.heap.size w w' := by
  have HN := Lib.hid hn
  clear hn
  go_enter Try.func55, Try.ntmps55
  go_wp2
  go_loopw [0, 4] (fun a t wr => ∃ k m : Nat, k ≤ 8 ∧ m = n / 256 ^ k ∧ (0 < k → n / 256 ^ (k - 1) ≠ 0) ∧ a = .int .u64 m ∧ t = .int .i64 (8 - (k : Int)) ∧ wr = w.alloc (.cells (arr n k) 99)) (fun a _ _ => (intOf a).toNat)
  case atStart => exact ⟨0, n, by omega, by simp, by omega, by simp, by simp, by rw [arr_zero]⟩
  case round =>
    obtain ⟨k, m, hk, hm, hp, rfl, rfl, rfl⟩ := hrel
    have h8 := arr_at n k hk
    have HP := Lib.hid hp
    have HM := Lib.hid hm
    clear hp hm
    by_cases hlt : 0 < (m : Int)
    · go_wp2
      go_roundw
      case rel =>
        have hm := HM.out
        have hk8 : k + 1 ≤ 8 := by
          rcases Nat.lt_or_ge k 8 with h | h
          · exact h
          · exfalso
            have : k = 8 := by omega
            subst this
            have := Nat.div_eq_of_lt HN.out
            have h2 : m = 0 := hm.trans this
            omega
        refine ⟨k + 1, m / 256, hk8, ?_, fun _ => ?_, by go_num, by go_num, ?_⟩
        · rw [Nat.pow_succ, ← Nat.div_div_eq_div_mul, ← hm]
        · show n / 256 ^ k ≠ 0
          omega
        · rw [← arr_succ n k hk, hm]
          simp
      case measure =>
        simp only [intOf]
        omega
    · have hm0 : m = 0 := by omega
      have hk0 : n / 256 ^ k = 0 := by rw [← HM.out]; exact hm0
      have HL := Lib.hid (be_len k n hk0 HP.out)
      have HK := Lib.hid hk0
      clear hk0 hm0
      have hsl := slice_run w.heap.size k hk
      have hcv := conv_run n k w hk HL.out
      go_wp2
      go_ret
      exact ⟨rfl, (Below.refl _ _).alloc (Nat.le_refl _) _⟩
end Go.Proofs.Ytclpjmhanhocoaa.Digit
