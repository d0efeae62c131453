/- The page's Digits and Whole: a number's decimal text. Conditions: as stated in each theorem. -/
import Derived.Test.YtoahfegeeimomaaDoorBase
import Derived.Lib.ItoaNum
import Derived.Lib.ConvBytes
import Derived.Laws.IdiomStrings
import Derived.IntWalk
set_option linter.unusedVariables false
set_option linter.unusedSimpArgs false
namespace Go.Proofs.YtoahfegeeimomaaDoor.Digits
open Go.RowKit Base
set_option maxRecDepth 100000

theorem conv1 (W : World) (b : UInt8) (u : Int) (hu : u = b.toNat) :
    (convert 76 9 (.slice (some ⟨W.heap.size, 0, none⟩) 1 1)).run Tryd.prog (W.alloc (.cells #[.int .u8 u] 5)) = .ok (.string ⟨#[b]⟩) (W.alloc (.cells #[.int .u8 u] 5)) := by
  subst hu
  have h := run_convert_bytes_back (P := Tryd.prog) (W.alloc (.cells #[.int .u8 (b.toNat : Int)] 5)) 76 9 5 ⟨W.heap.size, 0, none⟩ 1 [b] Tryd.underlying76 Tryd.underlying5 Tryd.underlying9 ?_
  · exact h
  · intro j hj
    have hj0 : j = 0 := by simpa using hj
    subst hj0
    simp [Addr.add]
theorem byte {z : Nat} (hz : z < 256) : ∃ b : UInt8, Hid (b = UInt8.ofNat z) ∧ (z : Int) = b.toNat := ⟨UInt8.ofNat z, Lib.hid rfl, by simp; omega⟩
theorem add1 (b : UInt8) (l : List UInt8) (hl : l.length ≤ 100) (W : World) : (Op.stringOp .add ⟨#[b]⟩ ⟨l.toArray⟩).run Tryd.prog W = .ok (.string ⟨(b :: l).toArray⟩) W := by
  have h := run_string_add_sum (P := Tryd.prog) W ⟨#[b]⟩ ⟨l.toArray⟩ (by simp [ByteArray.size]; omega)
  rw [h]
  congr 2
theorem nDigits_20 {n : Nat} (h : n < 18446744073709551616) : Lib.nDigits n ≤ 20 := by
  have step : ∀ (k n : Nat), n < 10 ^ (k + 1) → Lib.nDigits n ≤ k + 1 := by
    intro k
    induction k with
    | zero => intro n hn; unfold Lib.nDigits; split <;> omega
    | succ k ih =>
      intro n hn
      unfold Lib.nDigits
      split
      · omega
      · have := ih (n / 10) (by rw [Nat.div_lt_iff_lt_mul (by decide)]; rw [Nat.pow_succ] at hn; exact hn)
        omega
  exact step 19 n (by omega)
theorem nDigits_step {m : Nat} (h : 9 < m) : Lib.nDigits m = Lib.nDigits (m / 10) + 1 := by
  rw [Lib.nDigits]
  simp [show ¬ m < 10 by omega]
theorem dec_step {m : Nat} (h : 9 < m) : Lib.decDigits m = Lib.decDigits (m / 10) ++ [UInt8.ofNat (48 + m % 10)] := by
  rw [Lib.decDigits, dif_neg (by omega)]
set_option maxHeartbeats 1000000 in
theorem digits (n : Nat) (hn : n < 18446744073709551616) (w : World) :
    Calls Tryd.prog 25 #[.int .u64 n] w fun e w' => e = .returned (.string ⟨(Lib.decDigits n).toArray⟩) ∧ Below w.heap.size w w' := by
  go_enter Tryd.func25, Tryd.ntmps25
  go_wp2_with fail
  go_loopw [0, 3] (fun v s wr => ∃ (m : Nat) (l : List UInt8), m < 18446744073709551616 ∧ l.length + Lib.nDigits m ≤ 20 ∧ v = .int .u64 m ∧ s = .string ⟨l.toArray⟩ ∧ Lib.decDigits n = Lib.decDigits m ++ l ∧ Below w.heap.size w wr) (fun v _ _ => (intOf v).toNat)
  case atStart => exact ⟨n, [], hn, by simpa using nDigits_20 hn, rfl, rfl, by simp, Below.refl _ _⟩
  case round =>
    obtain ⟨m, l, hm, hl, rfl, rfl, hd, hb⟩ := hrel
    have HB := Lib.hid hb
    have HD := Lib.hid hd
    clear hb hd
    by_cases h9 : 9 < m
    · have h1 : (9 : Int) < m := by omega
      obtain ⟨b, HBB, hbn⟩ := byte (z := 48 + m % 10) (by omega)
      have hc := conv1 wr b (48 + (m : Int) % 10) (by omega)
      have ha := fun W => add1 b l (by omega) W
      clear hbn
      have HL := nDigits_step h9
      have HDS := Lib.hid (dec_step h9)
      go_wp2
      go_roundw
      case rel => exact ⟨m / 10, b :: l, by omega, by simp; omega, by simp, rfl, by rw [HD.out, HDS.out, HBB.out]; simp, HB.out.alloc HB.out.size _⟩
      case measure => simp [intOf]; omega
    · have h1 : ¬ (9 : Int) < m := by omega
      obtain ⟨b, HBB, hbn⟩ := byte (z := 48 + m) (by omega)
      have hc := conv1 wr b (48 + (m : Int)) (by omega)
      have ha := fun W => add1 b l (by omega) W
      have HDM : Hid (Lib.decDigits m = [b]) := Lib.hid (by rw [HBB.out]; exact Lib.decDigits_one (by omega))
      clear hbn
      go_wp2
      go_ret
      exact ⟨by rw [HD.out, HDM.out]; rfl, HB.out.alloc HB.out.size _⟩
theorem whole (z : Int) (h0 : -9223372036854775808 ≤ z) (h1 : z ≤ 9223372036854775807) (w : World) :
    Calls Tryd.prog 22 #[.int .i64 z] w fun e w' => e = .returned (.string ⟨(Lib.itoa z).toArray⟩) ∧ Below w.heap.size w w' := by
  by_cases hz : z < 0
  · have HI : Hid (Lib.itoa z = 45 :: Lib.decDigits z.natAbs) := Lib.hid (by simp [Lib.itoa, hz])
    have hab : z.natAbs < 18446744073709551616 := by omega
    have HL : Hid ((Lib.decDigits z.natAbs).length ≤ 20) := Lib.hid (by rw [Lib.decDigits_length]; exact nDigits_20 hab)
    have ha := fun W => add1 45 (Lib.decDigits z.natAbs) (by have := HL.out; omega) W
    have e1 : IntKind.i64.wrap (z + 1) = z + 1 := by rw [IntWalk.i64_in _ (by omega)]
    have e2 : IntKind.i64.wrap (-(z + 1)) = -(z + 1) := by rw [IntWalk.i64_in _ (by omega)]
    have e3 : (-(z + 1) + 1 : Int) = (z.natAbs : Nat) := by omega
    go_enter Tryd.func22, Tryd.ntmps22
    go_wp2_with fail
    refine (digits z.natAbs hab _).mono ?_
    rintro e w1 ⟨rfl, hb1⟩
    go_wp2
    go_ret
    exact ⟨by rw [HI.out]; rfl, hb1⟩
  · have HI : Hid (Lib.itoa z = Lib.decDigits z.toNat) := Lib.hid (by simp [Lib.itoa, hz])
    obtain ⟨n, rfl⟩ := Int.eq_ofNat_of_zero_le (show 0 ≤ z by omega)
    have hn : n < 18446744073709551616 := by omega
    go_enter Tryd.func22, Tryd.ntmps22
    go_wp2_with fail
    refine (digits n hn _).mono ?_
    rintro e w1 ⟨rfl, hb1⟩
    go_wp2
    go_ret
    exact ⟨by rw [HI.out]; rfl, hb1⟩
end Go.Proofs.YtoahfegeeimomaaDoor.Digits
