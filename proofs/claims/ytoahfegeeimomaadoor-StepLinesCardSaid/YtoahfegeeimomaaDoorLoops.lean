/- The reference's nibble, number, small. Conditions: as stated in each theorem. -/
import Derived.Test.YtoahfegeeimomaaDoorHex
import Derived.Test.YtoahfegeeimomaaDoorLoopsPlain
set_option linter.unusedVariables false
set_option linter.unusedSimpArgs false
namespace Go.Proofs.YtoahfegeeimomaaDoor.Loops
open Go.RowKit Base RowD Number TextP LinesPlain Num Tail Hex LoopsPlain
set_option maxRecDepth 100000

theorem nibble (b : UInt8) (w : World) : Calls Tryd.prog 53 #[.int .u8 (b.toNat : Int)] w fun e w' => e = .returned (.int .i64 (nibR b : Nat)) ∧ w' = w := by
  have hb := b.toNat_lt
  unfold nibR
  generalize b.toNat = n at *
  by_cases h1 : 48 ≤ n ∧ n ≤ 57
  · obtain ⟨h1, h2⟩ := h1
    rw [if_pos ⟨h1, h2⟩, show ((n - 48 : Nat) : Int) = (n : Int) - 48 by omega]
    have a1 : (48 : Int) ≤ (n : Int) := by omega
    have a2 : (n : Int) ≤ 57 := by omega
    have a3 : IntKind.i64.wrap ((n : Int) - 48) = (n : Int) - 48 := IntWalk.i64_in _ (by omega)
    have a4 : IntKind.i64.wrap (n : Int) = (n : Int) := IntWalk.i64_in _ (by omega)
    go_enter Tryd.func53, Tryd.ntmps53
    go_wp2
    go_ret
    exact ⟨rfl, rfl⟩
  · rw [if_neg h1]
    by_cases h2 : 97 ≤ n ∧ n ≤ 102
    · obtain ⟨h3, h4⟩ := h2
      rw [if_pos ⟨h3, h4⟩, show ((n - 87 : Nat) : Int) = (n : Int) - 87 by omega]
      have a1 : (97 : Int) ≤ (n : Int) := by omega
      have a2 : (n : Int) ≤ 102 := by omega
      have b1 : (48 : Int) ≤ (n : Int) := by omega
      have b2 : ¬ (n : Int) ≤ 57 := by omega
      have a3 : IntKind.i64.wrap ((n : Int) - 87) = (n : Int) - 87 := IntWalk.i64_in _ (by omega)
      have a4 : IntKind.i64.wrap (n : Int) = (n : Int) := IntWalk.i64_in _ (by omega)
      clear h1
      go_enter Tryd.func53, Tryd.ntmps53
      go_wp2
      go_ret
      exact ⟨rfl, rfl⟩
    · rw [if_neg h2]
      by_cases c1 : (48 : Int) ≤ (n : Int) <;> by_cases c2 : (n : Int) ≤ 57 <;> by_cases c3 : (97 : Int) ≤ (n : Int) <;> by_cases c4 : (n : Int) ≤ 102
      all_goals first | (exfalso; omega) | skip
      all_goals clear h1 h2
      all_goals go_enter Tryd.func53, Tryd.ntmps53
      all_goals go_wp2
      all_goals go_ret
      all_goals exact ⟨rfl, rfl⟩
def numT : Option Nat → Value
  | some v => .tuple #[.int .u64 (v : Int), .bool true]
  | none => .tuple #[.int .u64 0, .bool false]
theorem u64_in (n : Int) (h : 0 ≤ n) (h2 : n < 18446744073709551616) : IntKind.u64.wrap n = n := by
  simp [IntKind.wrap, IntKind.bits, IntKind.signed]
  omega
theorem refNumber_empty (w : World) : Calls Tryd.prog 40 #[.string ⟨#[]⟩] w fun e w' => e = .returned (numT (numR [])) ∧ w' = w := by
  go_enter Tryd.func40, Tryd.ntmps40
  go_wp2
  go_ret2
  exact ⟨rfl, rfl⟩
theorem len_bytes (s : ByteArray) : s.data.toList.length = s.size := by simp
theorem refNumber_zero (s : ByteArray) (h1 : 1 < s.size) (h2 : bt s.data.toList 0 = 48) (hm : s.size ≤ 1000) (w : World) : Calls Tryd.prog 40 #[.string s] w fun e w' => e = .returned (numT (numR s.data.toList)) ∧ w' = w := by
  have hn : numR s.data.toList = none := by
    unfold numR
    rw [if_pos]
    refine .inr ⟨by rw [len_bytes]; exact h1, ?_⟩
    cases hd : s.data.toList with
    | nil => have := len_bytes s; rw [hd] at this; simp at this; omega
    | cons c r =>
      rw [hd] at h2
      simp [bt] at h2
      have : c = 48 := UInt8.toNat_inj.1 (by simpa using h2)
      rw [this]; rfl
  rw [hn]
  have hne := not_empty (s := s) (by omega)
  have x0 := idx (s := s) (i := 0) (j := 0) rfl (by omega)
  rw [h2] at x0
  have d1 : decide ((1 : Int) < (s.size : Int)) = true := by simp; omega
  go_enter Tryd.func40, Tryd.ntmps40
  go_wp2
  go_ret2
  exact ⟨rfl, rfl⟩
set_option maxHeartbeats 4000000 in
theorem refNumber_loop (s : ByteArray) (h0 : 0 < s.size) (h1 : ¬ (1 < s.size ∧ bt s.data.toList 0 = 48)) (hm : s.size ≤ 1000) (w : World) : Calls Tryd.prog 40 #[.string s] w fun e w' => e = .returned (numT (numR s.data.toList)) ∧ w' = w := by
  have hn : numR s.data.toList = goR 0 s.data.toList := by
    unfold numR
    rw [if_neg]
    rintro (h | ⟨h2, h3⟩)
    · have := len_bytes s; rw [h] at this; simp at this; omega
    · refine h1 ⟨by rw [len_bytes] at h2; exact h2, ?_⟩
      cases hd : s.data.toList with
      | nil => rw [hd] at h3; cases h3
      | cons c r =>
        rw [hd] at h3
        simp at h3
        simp [bt, h3]
  rw [hn]
  have hne := not_empty (s := s) h0
  have x0 := idx (s := s) (i := 0) (j := 0) rfl h0
  have hb0 := bt_lt s.data.toList 0
  generalize bt s.data.toList 0 = c0 at *
  have hq : decide ((1 : Int) < (s.size : Int)) = false ∨ decide ((1 : Int) < (s.size : Int)) = true ∧ ((c0 : Int) == 48) = false := by
    by_cases hq : 1 < s.size
    · exact .inr ⟨by simp; omega, by simp; omega⟩
    · exact .inl (by simp; omega)
  clear h1 hn
  have go : Calls Tryd.prog 40 #[.string s] w fun e w' => e = .returned (numT (goR 0 s.data.toList)) ∧ w' = w := by
    rcases hq with hq | ⟨hq, hq2⟩
    all_goals
      go_enter Tryd.func40, Tryd.ntmps40
      go_wp2
      go_loop [4, 5] (fun n i => ∃ k m : Nat, k ≤ s.size ∧ i = .int .i64 k ∧ n = .int .u64 m ∧ m < 18446744073709551616 ∧ Hid (goR 0 s.data.toList = goR m (s.data.toList.drop k))) (fun _ i => s.size - (intOf i).toNat)
      case atStart => exact ⟨0, 0, Nat.zero_le _, rfl, rfl, by omega, Lib.hid (by simp)⟩
      case round =>
        obtain ⟨k, m, hk, rfl, rfl, hm2, HG⟩ := hrel
        clear x0 hne
        by_cases hlt : k < s.size
        · have d1 : decide ((k : Int) < (s.size : Int)) = true := by simp; omega
          have xk := idx (s := s) (i := (k : Int)) (j := k) rfl hlt
          have hc := bt_lt s.data.toList k
          have hg := HG.out.trans (goR_step s.data.toList k m (by rw [len_bytes]; exact hlt))
          change goR 0 s.data.toList = (if bt s.data.toList k < 48 ∨ 57 < bt s.data.toList k then none else if 1844674407370955161 < m ∨ m = 1844674407370955161 ∧ 5 < bt s.data.toList k - 48 then none else goR (m * 10 + (bt s.data.toList k - 48)) (s.data.toList.drop (k + 1))) at hg
          clear HG
          generalize bt s.data.toList k = c at *
          have HG := Lib.hid hg
          clear hg
          by_cases c1 : c < 48
          · have a1 : (c : Int) < 48 := by omega
            have HE := Lib.hid (show goR 0 s.data.toList = none by rw [HG.out, if_pos (.inl c1)])
            go_wp2
            go_ret2
            rw [HE.out]
            exact ⟨rfl, rfl⟩
          · by_cases c2 : 57 < c
            · have a1 : ¬ (c : Int) < 48 := by omega
              have a2 : (57 : Int) < (c : Int) := by omega
              have HE := Lib.hid (show goR 0 s.data.toList = none by rw [HG.out, if_pos (.inr c2)])
              go_wp2
              go_ret2
              rw [HE.out]
              exact ⟨rfl, rfl⟩
            · have a1 : ¬ (c : Int) < 48 := by omega
              have a2 : ¬ (57 : Int) < (c : Int) := by omega
              have w1 : IntKind.u64.wrap ((c : Int) - 48) = ((c - 48 : Nat) : Int) := by rw [u64_in _ (by omega) (by omega)]; omega
              have w2 : IntKind.u64.wrap (c : Int) = (c : Int) := u64_in _ (by omega) (by omega)
              by_cases c3 : 1844674407370955161 < m
              · have a3 : (1844674407370955161 : Int) < (m : Int) := by omega
                have HE := Lib.hid (show goR 0 s.data.toList = none by rw [HG.out, if_neg (by omega), if_pos (.inl c3)])
                go_wp2
                go_ret2
                rw [HE.out]
                exact ⟨rfl, rfl⟩
              · have a3 : ¬ (1844674407370955161 : Int) < (m : Int) := by omega
                by_cases c4 : m = 1844674407370955161
                · by_cases c5 : 5 < c - 48
                  · have a4 : ((m : Int) == 1844674407370955161) = true := by simp; omega
                    have a5 : (5 : Int) < ((c - 48 : Nat) : Int) := by omega
                    have HE := Lib.hid (show goR 0 s.data.toList = none by rw [HG.out, if_neg (by omega), if_pos (.inr ⟨c4, c5⟩)])
                    go_wp2
                    go_ret2
                    rw [HE.out]
                    exact ⟨rfl, rfl⟩
                  · have a4 : ((m : Int) == 1844674407370955161) = true := by simp; omega
                    have a5 : ¬ (5 : Int) < ((c - 48 : Nat) : Int) := by omega
                    have w3 : IntKind.u64.wrap ((m : Int) * 10) = ((m * 10 : Nat) : Int) := by rw [u64_in _ (by omega) (by omega)]; omega
                    have w4 : IntKind.u64.wrap (((m * 10 : Nat) : Int) + ((c - 48 : Nat) : Int)) = ((m * 10 + (c - 48) : Nat) : Int) := by rw [u64_in _ (by omega) (by omega)]; omega
                    have HN := Lib.hid (show goR 0 s.data.toList = goR (m * 10 + (c - 48)) (s.data.toList.drop (k + 1)) by rw [HG.out, if_neg (by omega), if_neg (by omega)])
                    clear c4 hm2
                    go_wp2
                    go_round
                    case rel => exact ⟨k + 1, m * 10 + (c - 48), by omega, by go_num, rfl, by omega, HN⟩
                    case measure => simp [intOf]; omega
                · have a4 : ((m : Int) == 1844674407370955161) = false := by simp; omega
                  have w3 : IntKind.u64.wrap ((m : Int) * 10) = ((m * 10 : Nat) : Int) := by rw [u64_in _ (by omega) (by omega)]; omega
                  have w4 : IntKind.u64.wrap (((m * 10 : Nat) : Int) + ((c - 48 : Nat) : Int)) = ((m * 10 + (c - 48) : Nat) : Int) := by rw [u64_in _ (by omega) (by omega)]; omega
                  have HN := Lib.hid (show goR 0 s.data.toList = goR (m * 10 + (c - 48)) (s.data.toList.drop (k + 1)) by rw [HG.out, if_neg (by omega), if_neg (by omega)])
                  go_wp2
                  go_round
                  case rel => exact ⟨k + 1, m * 10 + (c - 48), by omega, by go_num, rfl, by omega, HN⟩
                  case measure => simp [intOf]; omega
        · obtain rfl : k = s.size := by omega
          have HE := Lib.hid (show goR 0 s.data.toList = some m by rw [HG.out, ← len_bytes s, goR_end])
          clear HG
          go_wp2
          go_ret2
          rw [HE.out]
          exact ⟨rfl, rfl⟩
  exact go
end Go.Proofs.YtoahfegeeimomaaDoor.Loops
