/- Numbers in digits: the reference's reading of them, decDigits, strconv's. No program. Conditions: as stated in each theorem. -/
import Derived.Lib.ItoaNum
import Derived.Lib.AtoiAll
import Derived.Lib.ParseIntB
set_option linter.unusedVariables false
set_option linter.unusedSimpArgs false
namespace Go.Proofs.YtoahfegeeimomaaDoor.Number
open Go.Lib

/-- the reference's loop -/
def goR (n : Nat) : List UInt8 → Option Nat
  | [] => some n
  | c :: r => if c.toNat < 48 ∨ 57 < c.toNat then none else if 1844674407370955161 < n ∨ n = 1844674407370955161 ∧ 5 < c.toNat - 48 then none else goR (n * 10 + (c.toNat - 48)) r
def numR (l : List UInt8) : Option Nat := if l = [] ∨ 1 < l.length ∧ l.head? = some 48 then none else goR 0 l
theorem goR_append (a b : List UInt8) (n : Nat) : goR n (a ++ b) = (goR n a).bind fun m => goR m b := by
  induction a generalizing n with
  | nil => rfl
  | cons c r ih =>
    simp only [List.cons_append, goR]
    split
    · rfl
    · split
      · rfl
      · exact ih _
theorem goR_lt {l : List UInt8} {n v : Nat} (h : goR n l = some v) (hn : n < 18446744073709551616) : v < 18446744073709551616 := by
  induction l generalizing n with
  | nil => simp only [goR, Option.some.injEq] at h; omega
  | cons c r ih =>
    simp only [goR] at h
    split at h
    · cases h
    · split at h
      · cases h
      · exact ih h (by omega)
theorem goR_parse {l : List UInt8} {n v : Nat} (h : goR n l = some v) : parseUint10 n l = .ok v := by
  induction l generalizing n with
  | nil => simp only [goR, Option.some.injEq] at h; rw [h]; rfl
  | cons c r ih =>
    simp only [goR] at h
    split at h
    · cases h
    · split at h
      · cases h
      · rw [parseUint10, if_pos (by omega), if_neg (by omega), if_neg (by omega)]
        exact ih h
theorem ofNat_sub (c : UInt8) (h : 48 ≤ c.toNat) : UInt8.ofNat (48 + (c.toNat - 48)) = c := by
  rw [show 48 + (c.toNat - 48) = c.toNat by omega]
  simp
theorem dec_snoc {a d : Nat} (ha : 1 ≤ a) (hd : d < 10) : decDigits (a * 10 + d) = decDigits a ++ [UInt8.ofNat (48 + d)] := by
  rw [decDigits, dif_neg (by omega), show (a * 10 + d) / 10 = a by omega, show (a * 10 + d) % 10 = d by omega]
theorem goR_dec {l : List UInt8} {n v : Nat} (hn : 1 ≤ n) (h : goR n l = some v) : decDigits v = decDigits n ++ l := by
  induction l generalizing n with
  | nil => simp only [goR, Option.some.injEq] at h; rw [h]; simp
  | cons c r ih =>
    simp only [goR] at h
    split at h
    · cases h
    · split at h
      · cases h
      · rw [ih (by omega) h, dec_snoc hn (by omega), ofNat_sub c (by omega)]
        simp
/-- a numeral is its number's digits -/
theorem numR_dec {l : List UInt8} {v : Nat} (h : numR l = some v) : l = decDigits v ∧ v < 18446744073709551616 := by
  unfold numR at h
  split at h
  · cases h
  · rename_i hc
    refine ⟨?_, goR_lt h (by omega)⟩
    match l, hc, h with
    | [], hc, h => exact absurd (Or.inl rfl) hc
    | c :: r, hc, h =>
      simp only [goR] at h
      split at h
      · cases h
      · split at h
        · cases h
        · by_cases hr : r = []
          · subst hr
            simp only [goR, Option.some.injEq] at h
            rw [← h, decDigits_one (by omega), show 0 * 10 + (c.toNat - 48) = c.toNat - 48 by omega, ofNat_sub c (by omega)]
          · have h48 : c.toNat ≠ 48 := by
              intro e
              refine hc (Or.inr ⟨?_, ?_⟩)
              · have := List.length_pos_iff.2 hr
                simp; omega
              · have : c = 48 := UInt8.toNat_inj.1 (by simpa using e)
                rw [this]; rfl
            rw [goR_dec (by omega) h, show 0 * 10 + (c.toNat - 48) = c.toNat - 48 by omega, decDigits_one (by omega), ofNat_sub c (by omega)]
            rfl
theorem dec_ne (n : Nat) : decDigits n ≠ [] := by
  rw [decDigits]
  split <;> simp
theorem goR_digits (n : Nat) (h : n < 18446744073709551616) : goR 0 (decDigits n) = some n := by
  induction n using Nat.strongRecOn with
  | ind n ih =>
    by_cases h10 : n < 10
    · rw [decDigits_one h10, goR]
      have e : (UInt8.ofNat (48 + n)).toNat = 48 + n := by simp; omega
      rw [e, if_neg (by omega), if_neg (by omega), goR]
      congr 1
      omega
    · rw [decDigits, dif_neg h10, goR_append, ih (n / 10) (by omega) (by omega)]
      have e : (UInt8.ofNat (48 + n % 10)).toNat = 48 + n % 10 := by simp; omega
      simp only [Option.bind_some, goR]
      rw [e, if_neg (by omega), if_neg (by omega)]
      congr 1
      omega
theorem dec_head (n : Nat) (h : 1 ≤ n) : (decDigits n).head? ≠ some 48 := by
  induction n using Nat.strongRecOn with
  | ind n ih =>
    by_cases h10 : n < 10
    · rw [decDigits_one h10]
      intro e
      simp only [List.head?_cons, Option.some.injEq] at e
      have e2 : (UInt8.ofNat (48 + n)).toNat = 48 + n := by simp; omega
      rw [e] at e2
      simp at e2
      omega
    · rw [decDigits, dif_neg h10]
      have := ih (n / 10) (by omega) (by omega)
      cases hd : decDigits (n / 10) with
      | nil => exact absurd hd (dec_ne _)
      | cons c r => rw [hd] at this; simpa using this
/-- the digits of a number are a numeral -/
theorem numR_digits (n : Nat) (h : n < 18446744073709551616) : numR (decDigits n) = some n := by
  unfold numR
  rw [if_neg, goR_digits n h]
  rintro (h1 | ⟨h1, h2⟩)
  · exact dec_ne n h1
  · by_cases h0 : 1 ≤ n
    · exact dec_head n h0 h2
    · obtain rfl : n = 0 := by omega
      rw [decDigits_one (by omega)] at h1
      simp at h1
theorem dec_byte {n : Nat} {c : UInt8} (h : c ∈ decDigits n) : 48 ≤ c.toNat ∧ c.toNat ≤ 57 := by
  induction n using Nat.strongRecOn with
  | ind n ih =>
    by_cases h10 : n < 10
    · rw [decDigits_one h10] at h
      simp only [List.mem_singleton] at h
      subst h
      simp; omega
    · rw [decDigits, dif_neg h10] at h
      rcases List.mem_append.1 h with h | h
      · exact ih (n / 10) (by omega) h
      · simp only [List.mem_singleton] at h
        subst h
        simp; omega
theorem numR_mag {l : List UInt8} {v : Nat} (h : numR l = some v) : parseMag l = .ok v := by
  unfold numR at h
  split at h
  · cases h
  · rename_i hc
    rw [parseMag, if_neg (fun e => hc (Or.inl e))]
    exact goR_parse h
/-- the number beside the error, and without one: strconv.Atoi's -/
def atoiV (l : List UInt8) : Int := match atoiAll l with
  | .ok v => v
  | .range => atoiSat l
  | _ => 0
theorem numR_atoi {l : List UInt8} {v : Nat} (h : numR l = some v) (hv : v < 9223372036854775808) : atoiAll l = .ok (v : Int) := by
  obtain ⟨hd, _⟩ := numR_dec h
  have hm := numR_mag h
  have hb : ∀ c ∈ l, 48 ≤ c.toNat ∧ c.toNat ≤ 57 := fun c hc => dec_byte (n := v) (by rw [← hd]; exact hc)
  match l, hm, hb, hd with
  | [], _, _, hd => exact absurd hd.symm (dec_ne v)
  | c :: r, hm, hb, _ =>
    have hc := hb c List.mem_cons_self
    rw [atoiAll]
    have n1 : ¬ c.toNat = 43 := by omega
    have n2 : ¬ c.toNat = 45 := by omega
    simp only [n1, n2, or_self, if_false, not_false_eq_true, true_and, false_and]
    rw [hm]
    simp only
    rw [if_neg (by omega)]
theorem numR_atoiV {l : List UInt8} {v : Nat} (h : numR l = some v) (hv : v < 9223372036854775808) : atoiV l = (v : Int) := by
  unfold atoiV
  rw [numR_atoi h hv]
/-- strconv.ParseUint's -/
def puV (l : List UInt8) : Nat := match parseUintB 64 l with
  | .ok v => v
  | .range => 18446744073709551615
  | _ => 0
end Go.Proofs.YtoahfegeeimomaaDoor.Number
