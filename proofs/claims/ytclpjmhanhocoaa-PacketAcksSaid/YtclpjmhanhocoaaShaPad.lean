/- sha.Pad and the reference's: what stands behind so many bytes (up to 300). Conditions: as stated in each theorem. -/
import Derived.Test.YtclpjmhanhocoaaShaRow
import Derived.StillTailTactics
set_option linter.unusedVariables false
set_option linter.unusedSimpArgs false
namespace Go.Proofs.Ytclpjmhanhocoaa.ShaPad
open Go.RowKit Base Sha ShaRot ShaTab ShaRow
set_option maxRecDepth 100000

def bytesA (l : List UInt8) : Array Value := (l.map fun b => Value.int .u8 (b.toNat : Int)).toArray
theorem bytesA_size (l : List UInt8) : (bytesA l).size = l.length := by simp [bytesA]
theorem bytesA_at (l : List UInt8) (i : Nat) (h : i < l.length) : (bytesA l)[i]? = some (.int .u8 (((l.getD i 0).toNat : Nat) : Int)) := by
  simp [bytesA, List.getD_eq_getElem?_getD, List.getElem?_eq_getElem h]
theorem bytesA_set (l : List UInt8) (i : Nat) (b : UInt8) : (bytesA l).setIfInBounds i (.int .u8 (b.toNat : Int)) = bytesA (l.set i b) := by
  simp [bytesA, List.map_set]
def pre (n : Nat) : List UInt8 := 128 :: List.replicate (zeros n) 0
def mid (n i : Nat) : List UInt8 := (tail n).take i ++ List.replicate (8 - i) 0
theorem pre_length (n : Nat) : (pre n).length = 1 + zeros n := by simp [pre]; omega
theorem mid_set (n i : Nat) (h : i < 8) : (mid n i).set i (b8 n i) = mid n (i + 1) := by
  match i, h with
  | 0, _ => rfl
  | 1, _ => rfl
  | 2, _ => rfl
  | 3, _ => rfl
  | 4, _ => rfl
  | 5, _ => rfl
  | 6, _ => rfl
  | 7, _ => rfl
  | k + 8, h => exact absurd h (by omega)
theorem padL_set (n i : Nat) (h : i < 8) : (pre n ++ mid n i).set (1 + zeros n + i) (b8 n i) = pre n ++ mid n (i + 1) := by
  rw [List.set_append_right _ _ (by rw [pre_length]; omega), pre_length, show 1 + zeros n + i - (1 + zeros n) = i by omega, mid_set n i h]
theorem padL_end (n : Nat) : pre n ++ mid n 8 = pad n := by simp [pre, mid, pad, tail]
theorem mid_length (n i : Nat) (h : i ≤ 8) : (mid n i).length = 8 := by simp [mid, tail]; omega
theorem b8_nat (n i : Nat) (h : i ≤ 7) : ((b8 n i).toNat : Int) = (n : Int) * 8 / 2 ^ (56 - 8 * i) % 256 := by
  unfold b8
  rw [show (256 : Nat) ^ (7 - i) = 2 ^ (56 - 8 * i) by rw [show (256 : Nat) = 2 ^ 8 by decide, ← Nat.pow_mul]; congr 1; omega]
  simp
def zeroL (n : Nat) : List UInt8 := List.replicate (9 + zeros n) 0
theorem made (n : Nat) : madeCells #[.int .u8 0] (9 + zeros n) = bytesA (zeroL n) := by
  unfold madeCells bytesA zeroL
  apply Array.ext
  · simp
  · intro i h1 h2
    simp [Nat.mod_one]
theorem conv {n : Nat} (w : World) (g : Nat) (l : List UInt8) (hl : l.length = n) (h : Row w g (bytesA l) 5) : (convert 93 9 (.slice (some ⟨g, 0, none⟩) n n)).run Try.prog w = .ok (.string ⟨l.toArray⟩) w := by
  have := run_convert_bytes_arg w 93 5 Try.underlying93 Try.underlying5 g 0 n n (l.map fun b => (b.toNat : Int)) (by simp [hl]) (by
    intro i hi
    rw [Nat.zero_add, h.cell i (bytesA_at l i (by omega))]
    simp [List.getD_eq_getElem?_getD, List.getElem?_eq_getElem (show i < l.length by omega)]) 9 Try.underlying9
  rw [this]
  have e : strOfNums (l.map fun b => (b.toNat : Int)) = ⟨l.toArray⟩ := by
    unfold strOfNums
    congr 2
    rw [List.map_map]
    have : ((fun n : Int => UInt8.ofNat n.toNat) ∘ fun b : UInt8 => (b.toNat : Int)) = id := by
      funext b
      simp
    rw [this, List.map_id]
  rw [e]
set_option maxHeartbeats 2000000 in
theorem pad_ (n : Nat) (hn : n ≤ 300) (w : World) : Calls Try.prog 65 #[.int .i64 (n : Int)] w fun e w' => e = .returned (.string ⟨(pad n).toArray⟩) ∧ Below w.heap.size w w' := by
  have hz : zeros n ≤ 63 := by unfold zeros; omega
  have e1 : ((119 : Int) - (n : Int) % 64) % 64 = (zeros n : Int) := by unfold zeros; omega
  have d0 : decide ((n : Int) < 0) = false := by simp
  have d1 : decide (1152921504606846976 < (n : Int)) = false := by simp; omega
  obtain ⟨i0, hi, hz0, hz1, hz2⟩ := info_parts (show (Try.prog.info? 5).map (fun i => (i.zero, i.size, i.bytes)) = some (some (.int .u8 0), 1, 1) by kernel_rfl)
  have hmk : ∀ w, (Instr.makeSlice 93 (.int .i64 (1 + (zeros n : Int) + 8)) (.int .i64 (1 + (zeros n : Int) + 8))).run Try.prog w = .ok (.slice (some ⟨w.heap.size, 0, none⟩) (9 + zeros n) (9 + zeros n)) (w.alloc (.cells (bytesA (zeroL n)) 5)) := fun w => by
    rw [run_makeSlice w 93 5 i0 _ Try.underlying93 hi hz0 .i64 .i64 _ _ (by omega) (by omega) (by rw [hz1]; omega) (by rw [hz2]; omega) (by omega)]
    rw [hz1, show (1 + (zeros n : Int) + 8).toNat = 9 + zeros n by omega, Nat.mul_one]
    exact congrArg (fun c => Result.ok _ (w.alloc (.cells c 5))) (made n)
  clear hi hz0 hz1 hz2
  have hz00 : (bytesA (zeroL n))[0]? = some (.int .u8 0) := by
    rw [bytesA_at _ 0 (by simp [zeroL]; omega)]
    simp [zeroL, List.getD_eq_getElem?_getD, List.getElem?_replicate]
    rw [if_pos (by omega)]
    rfl
  have hst : (bytesA (zeroL n)).setIfInBounds 0 (.int .u8 128) = bytesA (pre n ++ mid n 0) := by
    have := bytesA_set (zeroL n) 0 128
    refine this.trans (congrArg bytesA ?_)
    unfold zeroL pre mid
    rw [show 9 + zeros n = (8 + zeros n) + 1 by omega, List.replicate_succ]
    rw [List.set_cons_zero, List.cons_append, List.take_zero, List.nil_append, List.replicate_append_replicate, Nat.add_comm 8]
  have HST := Lib.hid hst
  clear hst
  go_enter Try.func65, Try.ntmps65
  go_wp2_with fail
  go_loopw [22] (fun i wr => ∃ t : Nat, t ≤ 8 ∧ i = .int .i64 t ∧ Row wr w.heap.size (bytesA (pre n ++ mid n t)) 5 ∧ Below w.heap.size w wr) (fun i _ => 8 - (intOf i).toNat)
  case atStart =>
    refine ⟨0, by omega, rfl, ?_, (Below.refl _ _).alloc (Nat.le_refl _) _⟩
    rw [← HST.out]
    exact Row.new _ _ _
  case round =>
    obtain ⟨t, ht, rfl, hr, hb⟩ := hrel
    have HR := Lib.hid hr
    have HB := Lib.hid hb
    clear hr hb
    by_cases hlt : t < 8
    · have hl : 1 + zeros n + t < (pre n ++ mid n t).length := by rw [List.length_append, pre_length, mid_length n t ht]; omega
      have hc := HR.out.cell (1 + zeros n + t) (bytesA_at _ _ hl)
      have hf := HR.out.free (1 + zeros n + t)
      have d2 : decide ((t : Int) < 8) = true := by simp; omega
      have tI : (t : Int) < 8 := by omega
      go_wp2
      go_roundw
      case rel =>
        refine ⟨t + 1, by omega, by go_num, ?_, belowSet HB.out (Nat.le_refl _) _ _⟩
        have := HR.out.set (1 + zeros n + t) (.int .u8 ((b8 n t).toNat : Int))
        rw [bytesA_set, padL_set n t hlt, b8_nat n t (by omega)] at this
        exact this
      case measure => simp [intOf]; omega
    · obtain rfl : t = 8 := by omega
      have hR := HR.out
      rw [padL_end] at hR
      have hlen : (pad n).length = 9 + zeros n := pad_length n
      have hcv := conv (n := 9 + zeros n) wr w.heap.size (pad n) hlen hR
      go_wp2
      go_ret
      exact ⟨rfl, HB.out⟩
def vB (l : List UInt8) : List Value := l.map fun b => Value.int .u8 (b.toNat : Int)
def lenOf : Value → Nat
  | .slice _ n _ => n
  | _ => 0
theorem own_slice {w : World} {B : Nat} {v : Value} {n : Nat} {xs : List Value} (h : w.ownsRow B 5 1 v n xs) (hn : 0 < n) : ∃ g cap, v = .slice (some ⟨g, 0, none⟩) n cap ∧ B ≤ g ∧ g < w.heap.size := by
  rcases h.2 with ⟨_, h0⟩ | ⟨g, cap, cur, rfl, hb, hg, _⟩
  · omega
  · exact ⟨g, cap, rfl, hb, lt_of_block hg⟩
theorem vB_rep (k : Nat) : vB (128 :: List.replicate k 0) ++ [Value.int .u8 0] = vB (128 :: List.replicate (k + 1) 0) := by
  rw [List.replicate_succ']
  simp [vB]
theorem b8_at (n t : Nat) (h : t < 8) : ((b8 n (7 - t)).toNat : Int) = ((n * 8 / 256 ^ t : Nat) : Int) % 256 := by
  unfold b8
  rw [show 7 - (7 - t) = t by omega]
  simp
theorem tail_drop (n t : Nat) (h : t < 8) : (tail n).drop (8 - (t + 1)) = b8 n (7 - t) :: (tail n).drop (8 - t) := by
  match t, h with
  | 0, _ => rfl
  | 1, _ => rfl
  | 2, _ => rfl
  | 3, _ => rfl
  | 4, _ => rfl
  | 5, _ => rfl
  | 6, _ => rfl
  | 7, _ => rfl
  | k + 8, h => exact absurd h (by omega)
def P2 (n : Nat) (w wr : World) (v3 v : Value) (t : Nat) : Prop := wr.ownsRow w.heap.size 5 1 v3 (1 + zeros n) (vB (pre n)) ∧ wr.ownsRow w.heap.size 5 1 v t (vB ((tail n).drop (8 - t))) ∧ Below w.heap.size w wr ∧ (t = 0 → v = .slice none 0 0)
theorem vB_one (l : List UInt8) : ∀ u ∈ vB l, u.oneCell' = true := by
  intro u hu
  obtain ⟨b, _, rfl⟩ := List.mem_map.1 hu
  rfl
theorem convO {n cap : Nat} {B g : Nat} (w : World) (l : List UInt8) (h : w.ownsRow B 5 1 (.slice (some ⟨g, 0, none⟩) n cap) n (vB l)) : (convert 93 9 (.slice (some ⟨g, 0, none⟩) n cap)).run Try.prog w = .ok (.string ⟨l.toArray⟩) w := by
  have hl : l.length = n := by have := h.1; simpa [vB] using this
  have := run_convert_bytes_arg w 93 5 Try.underlying93 Try.underlying5 g 0 n cap (l.map fun b => (b.toNat : Int)) (by simp [hl]) (by
    intro i hi
    rw [Nat.zero_add, h.cellAt i (by omega)]
    simp [vB, List.getD_eq_getElem?_getD, List.getElem?_eq_getElem (show i < l.length by omega)]) 9 Try.underlying9
  rw [this]
  have e : strOfNums (l.map fun b => (b.toNat : Int)) = ⟨l.toArray⟩ := by
    unfold strOfNums
    congr 2
    rw [List.map_map]
    have : ((fun n : Int => UInt8.ofNat n.toNat) ∘ fun b : UInt8 => (b.toNat : Int)) = id := by
      funext b
      simp
    rw [this, List.map_id]
  rw [e]
theorem fin_eq (n : Nat) : ((⟨(pre n).toArray⟩ : ByteArray) ++ ⟨(tail n).toArray⟩) = ⟨(pad n).toArray⟩ := by
  have e : (pad n) = pre n ++ tail n := by simp [pad, pre]
  rw [e]
  simp [ByteArray.mk_append_mk]
def P1 (n : Nat) (w wr : World) (v : Value) (k : Nat) : Prop := wr.ownsRow w.heap.size 5 1 v (1 + k) (vB (128 :: List.replicate k 0)) ∧ Below w.heap.size w wr
set_option maxHeartbeats 2000000 in
theorem refPad (n : Nat) (hn : n ≤ 300) (w : World) : Calls Try.prog 68 #[.int .i64 (n : Int)] w fun e w' => e = .returned (.string ⟨(pad n).toArray⟩) ∧ Below w.heap.size w w' := by
  have hz : zeros n ≤ 63 := by unfold zeros; omega
  have hzz : (n + (9 + zeros n)) % 64 = 0 := whole n
  obtain ⟨i0, hi, hz0, hz1, hz2⟩ := info_parts (show (Try.prog.info? 5).map (fun i => (i.zero, i.size, i.bytes)) = some (some (.int .u8 0), 1, 1) by kernel_rfl)
  have HI := Lib.hid hi
  have HZ0 := Lib.hid hz0
  have HZ1 := Lib.hid hz1
  have HZ2 := Lib.hid hz2
  have HZZ := Lib.hid hzz
  clear hi hz0 hz1 hz2 hzz
  go_enter Try.func68, Try.ntmps68
  go_wp2_with fail
  go_loopw [3] (fun v wr => ∃ k : Nat, k ≤ zeros n ∧ P1 n w wr v k) (fun v _ => 100 - lenOf v)
  case atStart =>
    exact ⟨0, by omega, World.ownsRow_lit w #[.int .u8 128] 1 (Nat.le_refl _) (by unfold maxLen; omega) rfl, (Below.refl _ _).alloc (Nat.le_refl _) _⟩
  case round =>
    obtain ⟨k, hk, hr, hb⟩ := hrel
    obtain ⟨g, cap, rfl, hg1, hg2⟩ := own_slice hr (by omega)
    have HR := Lib.hid hr
    have HB := Lib.hid hb
    clear hr hb
    by_cases hlt : k < zeros n
    · have hne : ((n : Int) % 64 + (1 + (k : Int)) + 8) % 64 ≠ 0 := by have := HZZ.out; unfold zeros at hlt; omega
      have d1 : ((((n : Int) % 64 + (1 + (k : Int)) + 8) % 64) != 0) = true := by simpa using hne
      clear hne
      go_wp2_with (refine wpList_append_one _ rfl _ _ 93 rfl w.heap.size 5 i0 (.int .u8 0) 1 Try.underlying93 HI.out HZ0.out HZ1.out HZ2.out rfl (.int .u8 0) rfl _ (1 + k) _ rfl HR.out rfl (by unfold maxLen; omega) (by omega) HB.out.size ?_; intro v' w1 hown' hgrow _)
      obtain ⟨g', cap', rfl, _, _⟩ := own_slice hown' (by omega)
      go_roundw
      case rel =>
        refine ⟨k + 1, by omega, ?_, ?_⟩
        · rw [vB_rep] at hown'
          exact hown'
        · exact (HB.out.alloc HB.out.size _).grown hgrow (by have := HB.out.size; simp; omega) (fun j hj => by cases hj; exact hg1)
      case measure => simp only [lenOf]; omega
    · obtain rfl : k = zeros n := by omega
      have hzero : ((n : Int) % 64 + (1 + (zeros n : Int)) + 8) % 64 = 0 := by have := HZZ.out; omega
      have d1 : ((((n : Int) % 64 + (1 + (zeros n : Int)) + 8) % 64) != 0) = false := by simpa using hzero
      clear hzero hlt
      have hpre : vB (128 :: List.replicate (zeros n) 0) = vB (pre n) := rfl
      have hr := HR.out
      rw [hpre] at hr
      have HR3 := Lib.hid hr
      clear HR hr hpre
      go_wp2_with fail
      go_loopw [4, 5, 6] (fun x v i wr2 => ∃ t : Nat, t ≤ 8 ∧ x = .int .u64 ((n * 8 / 256 ^ t : Nat) : Int) ∧ i = .int .i64 t ∧ P2 n w wr2 (.slice (some ⟨g, 0, none⟩) (1 + zeros n) cap) v t) (fun _ _ i _ => 8 - (intOf i).toNat)
      case atStart =>
        refine ⟨0, by omega, ?_, rfl, HR3.out, World.ownsRow_nil _ _ _ _, HB.out, fun _ => rfl⟩
        simp
      case round =>
        clear HR3 HB hg2
        obtain ⟨t, ht, hxx, rfl, hr3, hr, hb, h00⟩ := hrel
        obtain ⟨X, hX⟩ : ∃ X, X = n * 8 / 256 ^ t := ⟨_, rfl⟩
        rw [← hX] at hxx
        subst hxx
        have HR3 := Lib.hid hr3
        have HR := Lib.hid hr
        have HB := Lib.hid hb
        have HX := Lib.hid hX
        have bX : X ≤ 2400 := by rw [hX]; exact Nat.le_trans (Nat.div_le_self _ _) (by omega)
        clear hr3 hr hb hX
        by_cases hlt : t < 8
        · have d2 : decide ((t : Int) < 8) = true := by simp; omega
          have hx := b8_at n t hlt
          rw [← HX.out] at hx
          have hnext : X / 256 = n * 8 / 256 ^ (t + 1) := by rw [HX.out, Nat.div_div_eq_div_mul, ← Nat.pow_succ]
          have HN := Lib.hid hnext
          clear hnext
          by_cases h0 : t = 0
          · subst h0
            obtain rfl := h00 rfl
            clear h00
            go_wp2_with (refine wpList_append_own_none rfl _ _ 93 rfl w.heap.size 5 i0 1 Try.underlying93 HI.out _ 1 _ rfl (World.ownsRow_lit _ #[.int .u8 ((X : Int) % 256)] 1 HB.out.size (by unfold maxLen; omega) rfl) rfl ?_)
            go_roundw
            case rel =>
              refine ⟨1, by omega, ?_, rfl, HR3.out.alloc _, ?_, HB.out.alloc HB.out.size _, fun h => by omega⟩
              · rw [← HN.out]
                congr 1
                try omega
              · have := World.ownsRow_lit (e := 5) (size := 1) wr #[.int .u8 ((X : Int) % 256)] 1 HB.out.size (by unfold maxLen; omega) rfl
                rw [← hx] at this ⊢
                exact this
            case measure => simp [intOf]
          · clear h00
            obtain ⟨gt, ct, rfl, ht1, ht2⟩ := own_slice HR.out (by omega)
            have hl : (vB ((tail n).drop (8 - t))).length = t * 1 := by simp [vB, tail]; omega
            have h1c : ∀ u ∈ vB ((tail n).drop (8 - t)), u.oneCell' = true := vB_one _
            go_wp2_with (refine wpList_append_own (wr.alloc (.cells #[.int .u8 ((X : Int) % 256)] 5)) rfl _ _ 93 rfl w.heap.size 5 i0 (.int .u8 0) 1 1 Try.underlying93 HI.out HZ0.out HZ1.out HZ2.out rfl (by decide) _ 1 _ rfl (World.ownsRow_lit wr #[.int .u8 ((X : Int) % 256)] 1 HB.out.size (by unfold maxLen; omega) rfl) ⟨gt, 0, none⟩ t ct _ rfl hl ((HR.out.alloc _).cells rfl) h1c (by unfold maxLen; omega) (by omega) (by have := HB.out.size; simp; omega) ?_; intro v' w1 hown' hgrow _)
            go_roundw
            case rel =>
              refine ⟨t + 1, by omega, ?_, by go_num, ?_, ?_, ?_, fun h => by omega⟩
              · rw [← HN.out]
                congr 1
                try omega
              · exact (HR3.out.alloc _).kept hgrow (.inr (fun e => by
                  have h1 := (HR3.out.lt g rfl).2
                  have h2 : g = wr.heap.size := Option.some.inj e
                  omega))
              · rw [tail_drop n t hlt, Nat.add_comm]
                rw [← hx] at hown'
                exact hown'
              · exact (HB.out.alloc HB.out.size _).grown hgrow (by have := HB.out.size; simp; omega) (fun j hj => by cases hj; exact HB.out.size)
            case measure => simp [intOf]; omega
        · clear h00
          obtain rfl : t = 8 := by omega
          obtain ⟨gt, ct, rfl, ht1, ht2⟩ := own_slice HR.out (by omega)
          have c1 := convO wr (pre n) HR3.out
          have c2 := convO wr (tail n) HR.out
          have hsum := run_string_add_sum (P := Try.prog) wr ⟨(pre n).toArray⟩ ⟨(tail n).toArray⟩ (by simp [ByteArray.size, pre, tail]; omega)
          go_wp2
          go_ret
          exact ⟨by rw [fin_eq]; rfl, HB.out⟩
end Go.Proofs.Ytclpjmhanhocoaa.ShaPad
