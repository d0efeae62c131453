/- Words turned right: the program's and the reference's. Conditions: as stated in each theorem. -/
import Derived.Test.YtclpjmhanhocoaaSha
import Derived.Test.YtclpjmhanhocoaaBase
import Derived.IntWalk
set_option linter.unusedVariables false
set_option linter.unusedSimpArgs false
namespace Go.Proofs.Ytclpjmhanhocoaa.ShaRot
open Go.RowKit Base Sha
set_option maxRecDepth 100000

theorem pow_le (n : Nat) (h : n ≤ 31) : 2 ^ n ≤ 2147483648 := by
  have := Nat.pow_le_pow_right (n := 2) (by omega) h
  simpa using this
theorem u32_in (n : Int) (h0 : 0 ≤ n) (h1 : n < 4294967296) : IntKind.u32.wrap n = n := by
  rw [IntKind.wrap_u32']
  omega
def p2 (n : Nat) : Nat := 2 ^ n
theorem flip {f : FuncId} {args : Array Value} {w : World} {x : Ending} (h : Calls Try.prog f args w fun e w' => e = x ∧ w = w') : Calls Try.prog f args w fun e w' => e = x ∧ w' = w := h.mono fun _ _ h => ⟨h.1, h.2.symm⟩
set_option maxHeartbeats 1000000 in
theorem power (n : Nat) (hn : n ≤ 31) (w : World) : Calls Try.prog 86 #[.int .i64 (n : Int)] w fun e w' => e = .returned (.int .u32 (p2 n : Int)) ∧ w = w' := by
  go_enter Try.func86, Try.ntmps86
  go_wp2
  go_loop [3, 4] (fun p i => ∃ k P : Nat, k ≤ n ∧ P = 2 ^ k ∧ i = .int .i64 k ∧ p = .int .u32 (P : Int)) (fun _ i => n - (intOf i).toNat)
  case atStart => exact ⟨0, 1, by omega, rfl, rfl, rfl⟩
  case round =>
    obtain ⟨k, P, hk, hP, rfl, rfl⟩ := hrel
    have HK := Lib.hid hP
    have hP2 : P ≤ 2147483648 := by rw [hP]; exact pow_le k (by omega)
    clear hP
    by_cases hlt : k < n
    · go_wp2
      go_round
      case rel =>
        refine ⟨k + 1, 2 * P, by omega, by rw [HK.out, Nat.pow_succ, Nat.mul_comm], by go_num, ?_⟩
        have h1 := pow_le (k + 1) (by omega)
        rw [Nat.pow_succ, ← HK.out] at h1
        have : ((P : Int) * 2) % 4294967296 = ((2 * P : Nat) : Int) := by omega
        rw [this]
      case measure => simp [intOf]; omega
    · have hkn : k = n := by omega
      have HN := Lib.hid hkn
      clear hkn
      go_wp2
      go_ret
      exact ⟨by rw [show P = p2 n from by rw [HK.out, HN.out]; rfl]; rfl, rfl⟩
theorem sum_rot {x n : Nat} (hx : x < 4294967296) (h1 : 1 ≤ n) (h2 : n ≤ 31) : ((x : Int) / (p2 n : Int) % 4294967296 + (x : Int) % (p2 n : Int) * (p2 (32 - n) : Int) % 4294967296) % 4294967296 = ((rotr x n : Nat) : Int) := by
  have hl := rotr_lt hx h1 h2
  have e : (x : Int) / (p2 n : Int) % 4294967296 + (x : Int) % (p2 n : Int) * (p2 (32 - n) : Int) % 4294967296 = ((x / p2 n % 4294967296 + x % p2 n * p2 (32 - n) % 4294967296 : Nat) : Int) := by
    rw [Int.natCast_add, Int.natCast_emod, Int.natCast_emod, Int.natCast_mul, Int.natCast_ediv, Int.natCast_emod]
    rfl
  rw [e]
  have hr : rotr x n = x / p2 n + x % p2 n * p2 (32 - n) := rfl
  generalize x / p2 n = A at *
  generalize x % p2 n * p2 (32 - n) = B at *
  omega
set_option maxHeartbeats 1000000 in
theorem turned (x n : Nat) (hx : x < 4294967296) (h1 : 1 ≤ n) (h2 : n ≤ 31) (w : World) : Calls Try.prog 79 #[.int .u32 (x : Int), .int .i64 (n : Int)] w fun e w' => e = .returned (.int .u32 ((rotr x n : Nat) : Int)) ∧ ∃ m, w' = w.drewN m := by
  have h1' := power n h2
  have h2' := power (32 - n) (by omega)
  have H1 := Lib.hid h1'
  have H2 := Lib.hid h2'
  clear h1' h2'
  have e32 : IntKind.i64.wrap ((32 : Int) - (n : Int)) = ((32 - n : Nat) : Int) := by rw [IntWalk.i64_in _ (by omega)]; omega
  have hp : 0 < p2 n := Nat.two_pow_pos n
  have hp1 : (1 : Int) ≤ (p2 n : Int) := by omega
  have hp0 : ((p2 n : Int) == 0) = false := by simp; omega
  have hp2 : ¬ (p2 n : Int) = 0 := by omega
  have hp3 : ¬ p2 n = 0 := by omega
  go_enter Try.func79, Try.ntmps79
  go_wp2_with fail
  go_quiet ((first | (go_at_call_of 86 (Value.int IntKind.i64 (n : Int)); exact Calls.quiet_of_same (flip (H1.out _))) | (go_at_call 86; exact Calls.quiet_of_same (flip (H2.out _)))))
  rw [sum_rot hx h1 h2]
  go_wp2
  go_ret
  exact ⟨rfl, _, rfl⟩
theorem or_rot {x n : Nat} (hx : x < 4294967296) (h1 : 1 ≤ n) (h2 : n ≤ 31) : bits .or .u32 ((x : Int) * 2 ^ (32 - n) % 4294967296) ((x : Int) / 2 ^ (32 - (32 - n))) = ((rotr x n : Nat) : Int) := by
  have e1 : (x : Int) * 2 ^ (32 - n) % 4294967296 = ((x * 2 ^ (32 - n) % 4294967296 : Nat) : Int) := by rw [Int.natCast_emod, Int.natCast_mul, Int.natCast_pow]; rfl
  have e2 : (x : Int) / 2 ^ (32 - (32 - n)) = ((x / 2 ^ n : Nat) : Int) := by rw [show 32 - (32 - n) = n by omega, Int.natCast_ediv, Int.natCast_pow]; rfl
  rw [e1, e2, u32_or_nat _ _ (Nat.mod_lt _ (by omega)) (Nat.lt_of_le_of_lt (Nat.div_le_self _ _) hx), rotr_or hx h1 h2]
set_option maxHeartbeats 1000000 in
theorem rotate (x n : Nat) (hx : x < 4294967296) (h1 : 1 ≤ n) (h2 : n ≤ 31) (w : World) : Calls Try.prog 85 #[.int .u32 (x : Int), .int .i64 (-(n : Int))] w fun e w' => e = .returned (.int .u32 ((rotr x n : Nat) : Int)) ∧ w = w' := by
  have ha : bits .and .u64 (IntKind.u64.wrap (-(n : Int))) 31 = ((32 - n : Nat) : Int) := by
    rw [IntKind.wrap_u64]
    have e : (-(n : Int)) % 18446744073709551616 = ((18446744073709551616 - n : Nat) : Int) := by omega
    rw [e]
    have := u64_and_nat (18446744073709551616 - n) 31 (by omega) (by omega)
    rw [nat_mask5] at this
    refine this.trans ?_
    congr 1
    omega
  go_enter Try.func85, Try.ntmps85
  go_wp2
  go_ret
  exact ⟨by rw [or_rot hx h1 h2]; rfl, rfl⟩
set_option maxHeartbeats 1000000 in
theorem right (x n : Nat) (hx : x < 4294967296) (h1 : 1 ≤ n) (h2 : n ≤ 31) (w : World) : Calls Try.prog 77 #[.int .u32 (x : Int), .int .i64 (n : Int)] w fun e w' => e = .returned (.int .u32 ((rotr x n : Nat) : Int)) ∧ w = w' := by
  have H := Lib.hid (rotate x n hx h1 h2 w)
  go_enter Try.func77, Try.ntmps77
  go_wp2_with fail
  refine H.out.mono ?_
  rintro e w' ⟨rfl, rfl⟩
  go_wp2
  go_ret
  exact ⟨rfl, rfl⟩
end Go.Proofs.Ytclpjmhanhocoaa.ShaRot
