/- sha.spread: the 64 words of a block. Conditions: as stated in each theorem. -/
import Derived.Test.YtclpjmhanhocoaaShaRow
import Derived.StillTailTactics
set_option linter.unusedVariables false
set_option linter.unusedSimpArgs false
namespace Go.Proofs.Ytclpjmhanhocoaa.ShaSpread
open Go.RowKit Base Sha ShaRot ShaTab ShaRow
set_option maxRecDepth 100000

def part (b : List UInt8) (t : Nat) : Nat → Nat
  | 0 => 0
  | i + 1 => part b t i * 256 + by4 b (4 * t + i)
theorem part_lt (b : List UInt8) (t i : Nat) : part b t i < 256 ^ i := by
  induction i with
  | zero => simp [part]
  | succ i ih =>
    have := by4_lt b (4 * t + i)
    rw [part, Nat.pow_succ]
    omega
theorem part4 (b : List UInt8) (t : Nat) : part b t 4 = word b t := by
  simp only [part, word, Nat.add_zero]
  omega
theorem or_part {P c : Nat} (hP : P < 16777216) (hc : c < 256) : bits .or .u32 ((P : Int) * 256 % 4294967296) (c : Int) = ((P * 256 + c : Nat) : Int) := by
  have e : (P : Int) * 256 % 4294967296 = ((P * 256 : Nat) : Int) := by omega
  rw [e, u32_or_nat _ _ (by omega) (by omega), nat_join 8 _ _ (by omega) (by omega)]
theorem last_at (l : List Nat) (v t : Nat) (hl : l.length = t) (ht : t < 64) : (arrT (l ++ [v]))[t]? = some (.int .u32 (v : Nat)) := by
  rw [arrT_at _ t ht]
  simp [List.getD_eq_getElem?_getD, ← hl]
theorem idx {s : ByteArray} {i : Int} {j : Nat} (hi : i = (j : Int)) (h : j < s.size) (w : World) : (Instr.index 9 (.string s) (.int .i64 i)).run Try.prog w = .ok (.int .u8 ((by4 s.data.toList j : Nat) : Int)) w := by
  subst hi
  rw [run_index_string (P := Try.prog) w 9 s .i64 _ Try.underlying9, dif_pos (by omega)]
  have hb : by4 s.data.toList j = (s[j]).toNat := by
    unfold by4
    rw [List.getD_eq_getElem?_getD, List.getElem?_eq_getElem (by simpa using h)]
    rfl
  rw [hb]
  simp
def InS (w wr : World) (l : List Nat) : Prop := Row wr w.heap.size Z64 122 ∧ Row wr (w.heap.size + 1) (arrT l) 122 ∧ Below w.heap.size w wr
theorem start_in (w : World) : InS w ((w.alloc (.cells Z64 122)).alloc (.cells Z64 122)) [] := by
  refine ⟨(Row.new _ _ _).alloc _, ?_, ((Below.refl _ _).alloc (Nat.le_refl _) _).alloc (by simp) _⟩
  have := Row.new (w.alloc (.cells Z64 122)) Z64 122
  rw [World.size_alloc] at this
  rwa [arrT_nil]
theorem InS.drew {w w1 : World} {l : List Nat} (h : InS w w1 l) : InS w w1.drew l := ⟨h.1.drew, h.2.1.drew, belowDrew h.2.2⟩
theorem InS.drewN {w w1 : World} {l : List Nat} (h : InS w w1 l) (n : Nat) : InS w (w1.drewN n) l := ⟨h.1.drewN n, h.2.1.drewN n, belowDrewN h.2.2 n⟩
theorem arrT_zero (l : List Nat) : arrT (l ++ [0]) = arrT l := by
  apply Array.ext_getElem?
  intro i
  by_cases hi : i < 64
  · rw [arrT_at _ i hi, arrT_at _ i hi]
    rcases Nat.lt_trichotomy i l.length with h | h | h
    · simp [List.getD_eq_getElem?_getD, List.getElem?_append_left h]
    · subst h; simp [List.getD_eq_getElem?_getD]
    · rw [List.getD_eq_getElem?_getD, List.getD_eq_getElem?_getD, List.getElem?_eq_none (show l.length ≤ i by omega), List.getElem?_eq_none (by simp; omega)]
  · rw [Array.getElem?_eq_none (by rw [arrT_size]; omega), Array.getElem?_eq_none (by rw [arrT_size]; omega)]
theorem InS.zero {w w1 : World} {l : List Nat} (h : InS w w1 l) : InS w w1 (l ++ [0]) := ⟨h.1, by rw [arrT_zero]; exact h.2.1, h.2.2⟩
theorem InS.set {w w1 : World} {l : List Nat} {t : Nat} (h : InS w w1 l) (hl : l.length = t) (ht : t < 64) (v : Nat) : InS w (w1.setCell ⟨w.heap.size + 1, t, none⟩ (.int .u32 (v : Nat))) (l ++ [v]) := by
  subst hl
  refine ⟨h.1.setOther (by omega) _ _, ?_, belowSet h.2.2 (by omega) _ _⟩
  have := h.2.1.set l.length (.int .u32 (v : Nat))
  rwa [arrT_set l v ht] at this
theorem InS.set2 {w w1 : World} {l : List Nat} {t u : Nat} (h : InS w w1 (l ++ [u])) (hl : l.length = t) (ht : t < 64) (v : Nat) : InS w (w1.setCell ⟨w.heap.size + 1, t, none⟩ (.int .u32 (v : Nat))) (l ++ [v]) := by
  subst hl
  refine ⟨h.1.setOther (by omega) _ _, ?_, belowSet h.2.2 (by omega) _ _⟩
  have := h.2.1.set l.length (.int .u32 (v : Nat))
  rwa [← arrT_set l u ht, set_set, arrT_set l v ht] at this
theorem xor3 {a b c : Nat} (ha : a < 4294967296) (hb : b < 4294967296) (hc : c < 4294967296) {z : Int} (hz : z = (c : Int)) :
    ∃ R S : Nat, bits .xor .u32 (a : Int) (b : Int) = (R : Int) ∧ bits .xor .u32 (R : Int) z = (S : Int) ∧ S = a ^^^ b ^^^ c ∧ R < 4294967296 ∧ S < 4294967296 := by
  subst hz
  exact ⟨_, _, u32_xor_nat a b ha hb, u32_xor_nat _ c (xor_lt ha hb) hc, rfl, xor_lt ha hb, xor_lt (xor_lt ha hb) hc⟩
theorem add2 (a b : Nat) : ∃ R : Nat, IntKind.u32.wrap ((a : Int) + (b : Int)) = (R : Int) ∧ R = (a + b) % 4294967296 ∧ R < 4294967296 := ⟨(a + b) % 4294967296, by rw [IntKind.wrap_u32']; omega, rfl, Nat.mod_lt _ (by omega)⟩
theorem arrT_one (l : List Nat) : (arrT l).all (·.oneCell') = true := by
  simp [arrT, Value.oneCell']
theorem old_at (l : List Nat) (i : Nat) (hi : i < 64) : (arrT l)[i]? = some (.int .u32 (l.getD i 0 : Nat)) := arrT_at l i hi
set_option maxHeartbeats 1000000 in
theorem spread (b : ByteArray) (hb : b.size = 64) (w : World) : Calls Try.prog 76 #[.string b] w fun e w' => e = .returned (.agg (arrT (sched b.data.toList 64))) ∧ Below w.heap.size w w' := by
  have hb2 : b.size ≤ 64 := by omega
  have HB := Lib.hid hb
  clear hb
  go_enter Try.func76, Try.ntmps76
  go_wp2_with fail
  go_loopw [8] (fun i wr => ∃ t : Nat, t ≤ 64 ∧ i = .int .i64 t ∧ InS w wr (sched b.data.toList t)) (fun i _ => 64 - (intOf i).toNat)
  case atStart =>
    exact ⟨0, by omega, rfl, start_in w⟩
  case round =>
    obtain ⟨t, ht, rfl, hin⟩ := hrel
    have HI := Lib.hid hin
    clear hin
    by_cases hlt : t < 64
    · by_cases h16 : t < 16
      · have d1 : decide ((t : Int) < 64) = true := by simp; omega
        have d2 : decide ((t : Int) < 16) = true := by simp; omega
        go_wp2_with fail
        go_loopw [13] (fun i wr2 => ∃ k : Nat, k ≤ 4 ∧ i = .int .i64 k ∧ InS w wr2 (sched b.data.toList t ++ [part b.data.toList t k])) (fun i _ => 4 - (intOf i).toNat)
        case atStart => exact ⟨0, by omega, rfl, HI.out.zero⟩
        case round =>
          obtain ⟨k, hk, rfl, hin⟩ := hrel
          have HI2 := Lib.hid hin
          clear hin
          by_cases hk4 : k < 4
          · have hc := (HI2.out.2.1).cell t (last_at _ _ t (sched_length _ _) hlt)
            have hf := (HI2.out.2.1).free t
            have hs : 4 * t + k < b.size := by rw [HB.out]; omega
            have hP := part_lt b.data.toList t k
            have hP24 : part b.data.toList t k < 16777216 := Nat.lt_of_lt_of_le hP (Nat.pow_le_pow_right (n := 256) (show 0 < 256 by omega) (show k ≤ 3 by omega))
            have hpp : part b.data.toList t (k + 1) = part b.data.toList t k * 256 + by4 b.data.toList (4 * t + k) := rfl
            have HPP := Lib.hid hpp
            clear hP hpp
            generalize part b.data.toList t k = P at *
            have e1 : IntKind.i64.wrap (4 * (t : Int)) = 4 * (t : Int) := IntWalk.i64_in _ (by omega)
            have e2 : IntKind.i64.wrap (4 * (t : Int) + (k : Int)) = ((4 * t + k : Nat) : Int) := by rw [IntWalk.i64_in _ (by omega)]; omega
            have hx := idx (s := b) (i := 4 * (t : Int) + (k : Int)) (j := 4 * t + k) (by omega) hs
            have hltI : (t : Int) < 64 := by omega
            have hby := by4_lt b.data.toList (4 * t + k)
            have hor := or_part (P := P) (c := by4 b.data.toList (4 * t + k)) hP24 hby
            have e4 : IntKind.u32.wrap ((by4 b.data.toList (4 * t + k) : Nat) : Int) = ((by4 b.data.toList (4 * t + k) : Nat) : Int) := u32_in _ (by omega) (by omega)
            have e3 : IntKind.u32.wrap ((P : Int) * 256) = (P : Int) * 256 % 4294967296 := IntKind.wrap_u32' _
            generalize by4 b.data.toList (4 * t + k) = c at *
            go_wp2_with fail
            go_still_tail 13, (by kernel_rfl)
            change wpList _ _ _ _ _ (World.drew _)
            have HI3 := Lib.hid HI2.out.drew
            clear hc hf HI2 e1 e2 e3 e4 hx hor
            generalize World.drew _ = w2 at *
            have hc := (HI3.out.2.1).cell t (last_at _ _ t (sched_length _ _) hlt)
            have hf := (HI3.out.2.1).free t
            go_wp2
            go_roundw
            case rel =>
              refine ⟨k + 1, by omega, by go_num, ?_⟩
              have := InS.set2 HI3.out (sched_length _ _) hlt (part b.data.toList t (k + 1))
              rw [HPP.out] at this ⊢
              simpa using this
            case measure => simp [intOf]; omega
          · obtain rfl : k = 4 := by omega
            go_wp2
            go_roundw
            case rel =>
              refine ⟨t + 1, by omega, by go_num, ?_⟩
              have := HI2.out
              rw [part4] at this
              simpa [sched, newW, h16] using this
            case measure => simp [intOf]; omega
      · have d1 : decide ((t : Int) < 64) = true := by simp; omega
        have d2 : decide ((t : Int) < 16) = false := by simp; omega
        have e15 : IntKind.i64.wrap ((t : Int) - 15) = ((t - 15 : Nat) : Int) := by rw [IntWalk.i64_in _ (by omega)]; omega
        have e2 : IntKind.i64.wrap ((t : Int) - 2) = ((t - 2 : Nat) : Int) := by rw [IntWalk.i64_in _ (by omega)]; omega
        have e16 : IntKind.i64.wrap ((t : Int) - 16) = ((t - 16 : Nat) : Int) := by rw [IntWalk.i64_in _ (by omega)]; omega
        have e7 : IntKind.i64.wrap ((t : Int) - 7) = ((t - 7 : Nat) : Int) := by rw [IntWalk.i64_in _ (by omega)]; omega
        have l15 : ((t - 15 : Nat) : Int) < 64 := by omega
        have l2 : ((t - 2 : Nat) : Int) < 64 := by omega
        have l16 : ((t - 16 : Nat) : Int) < 64 := by omega
        have l7 : ((t - 7 : Nat) : Int) < 64 := by omega
        have hlen := sched_length b.data.toList t
        have hall := sched_lt b.data.toList t
        obtain ⟨X, hX⟩ : ∃ X, X = (sched b.data.toList t).getD (t - 15) 0 := ⟨_, rfl⟩
        obtain ⟨Y, hY⟩ : ∃ X, X = (sched b.data.toList t).getD (t - 2) 0 := ⟨_, rfl⟩
        obtain ⟨U, hU⟩ : ∃ X, X = (sched b.data.toList t).getD (t - 16) 0 := ⟨_, rfl⟩
        obtain ⟨V, hV⟩ : ∃ X, X = (sched b.data.toList t).getD (t - 7) 0 := ⟨_, rfl⟩
        have bX : X < 4294967296 := by rw [hX]; exact getD_lt hall _
        have bY : Y < 4294967296 := by rw [hY]; exact getD_lt hall _
        have bU : U < 4294967296 := by rw [hU]; exact getD_lt hall _
        have bV : V < 4294967296 := by rw [hV]; exact getD_lt hall _
        have hnew : newW b.data.toList (sched b.data.toList t) t = (U + V + s0 X + s1 Y) % 4294967296 := by
          rw [newW, if_neg h16, nextW, ← hX, ← hY, ← hU, ← hV]
        have HNEW := Lib.hid hnew
        have c15 := (HI.out.2.1).cell (t - 15) (old_at _ _ (by omega))
        have c2 := (HI.out.2.1).cell (t - 2) (old_at _ _ (by omega))
        rw [← hX] at c15
        rw [← hY] at c2
        have HX := Lib.hid hX
        have HY := Lib.hid hY
        have HU := Lib.hid hU
        have HV := Lib.hid hV
        clear hX hY hU hV hnew hall hlen
        go_wp2_with fail
        go_quiet (fail)
        have HI1 := Lib.hid (HI.out.drewN nq)
        clear c15 c2
        generalize wr.drewN nq = w1 at *
        have c16 := (HI1.out.2.1).cell (t - 16) (old_at _ _ (by omega))
        have c7 := (HI1.out.2.1).cell (t - 7) (old_at _ _ (by omega))
        rw [← HU.out] at c16
        rw [← HV.out] at c7
        obtain ⟨R1, S0, f1, f2, hS0, _, bS0⟩ := xor3 (rotr_lt bX (n := 7) (by omega) (by omega)) (rotr_lt bX (n := 18) (by omega) (by omega)) (c := X / 8) (by omega) (z := (X : Int) / 8) (by omega)
        obtain ⟨R2, S1, f3, f4, hS1, _, bS1⟩ := xor3 (rotr_lt bY (n := 17) (by omega) (by omega)) (rotr_lt bY (n := 19) (by omega) (by omega)) (c := Y / 1024) (by omega) (z := (Y : Int) / 1024) (by omega)
        obtain ⟨A1, a1, hA1, _⟩ := add2 U V
        obtain ⟨A2, a2, hA2, _⟩ := add2 A1 S0
        obtain ⟨A3, a3, hA3, _⟩ := add2 A2 S1
        have hA : newW b.data.toList (sched b.data.toList t) t = A3 := by
          rw [HNEW.out, hA3, hA2, hA1, hS0, hS1, s0, s1]
          omega
        have HA := Lib.hid hA
        clear hA hA1 hA2 hA3 hS0 hS1
        go_wp2_with fail
        go_still_tail 28, (by kernel_rfl)
        still_call (flip (right X 7 bX (by omega) (by omega) _))
        repeat still_step
        still_call (flip (right X 18 bX (by omega) (by omega) _))
        repeat still_step
        still_call (flip (right Y 17 bY (by omega) (by omega) _))
        repeat still_step
        still_call (flip (right Y 19 bY (by omega) (by omega) _))
        repeat still_step
        refine wpStill_nil ?_
        change wpList _ _ _ _ _ (World.drew _)
        have HI3 := Lib.hid HI1.out.drew
        clear c16 c7
        generalize World.drew _ = w2 at *
        have hc := (HI3.out.2.1).cell t (old_at _ _ hlt)
        have hf := (HI3.out.2.1).free t
        have hltI : (t : Int) < 64 := by omega
        go_wp2
        go_roundw
        case rel =>
          refine ⟨t + 1, by omega, by go_num, ?_⟩
          have := InS.set HI3.out (sched_length _ _) hlt (newW b.data.toList (sched b.data.toList t) t)
          rw [HA.out] at this
          rw [sched, HA.out]
          exact this
        case measure => simp [intOf]; omega
    · obtain rfl : t = 64 := by omega
      have hz := arrT_size (sched b.data.toList 64)
      have h1 := arrT_one (sched b.data.toList 64)
      have HZ := Lib.hid hz
      have H1 := Lib.hid h1
      clear hz h1
      go_wp2_with (first | (refine wpList_load_row rfl 122 _ rfl _ rfl 122 _ _ _ HI.out.2.1.is Try.underlying122 rfl (by rw [HZ.out]; kernel_rfl) ?_) | (refine wpList_store_rowTo rfl 122 _ _ rfl rfl w.heap.size (arrT (sched b.data.toList 64)) rfl rfl 122 Z64 HI.out.1.is (by rw [HZ.out]; kernel_rfl) (by rw [HZ.out]; rfl) H1.out ?_))
      have hR := (HI.out.1).row (ys := arrT (sched b.data.toList 64))
      exact bodyPost_ret (v := .agg (arrT (sched b.data.toList 64))) (results_cell_row Try.results76 _ _ w.heap.size 122 _ (0, 0) _ rfl hR.is Try.underlying122 rfl (by rw [HZ.out]; kernel_rfl)) rfl ⟨rfl, belowRow HI.out.2.2 (Nat.le_refl _) _⟩
end Go.Proofs.Ytclpjmhanhocoaa.ShaSpread
