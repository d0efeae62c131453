/- The reference's small and bytes, the program's unhex. Conditions: as stated in each theorem. -/
import Derived.Test.YtoahfegeeimomaaDoorLoops
set_option linter.unusedVariables false
set_option linter.unusedSimpArgs false
namespace Go.Proofs.YtoahfegeeimomaaDoor.Loops2
open Go.RowKit Base RowD Number TextP LinesPlain Num Tail Hex LoopsPlain Loops
set_option maxRecDepth 100000

theorem empty_of {s : ByteArray} (h : s.size = 0) : s = ⟨#[]⟩ := by
  obtain ⟨d⟩ := s
  have : d.size = 0 := h
  congr 1
  exact Array.eq_empty_of_size_eq_zero this
theorem refNumber (s : ByteArray) (hm : s.size ≤ 1000) (w : World) : Calls Tryd.prog 40 #[.string s] w fun e w' => e = .returned (numT (numR s.data.toList)) ∧ w' = w := by
  by_cases h0 : 0 < s.size
  · by_cases h1 : 1 < s.size ∧ bt s.data.toList 0 = 48
    · exact refNumber_zero s h1.1 h1.2 hm w
    · exact refNumber_loop s h0 h1 hm w
  · obtain rfl := empty_of (s := s) (by omega)
    exact refNumber_empty w
def smallT : Option Nat → Value
  | some v => .tuple #[.int .i64 (v : Int), .bool true]
  | none => .tuple #[.int .i64 0, .bool false]
theorem refSmall (s : ByteArray) (hm : s.size ≤ 1000) (m : Nat) (hmost : m ≤ 2147483647) (w : World) : Calls Tryd.prog 38 #[.string s, .int .i64 (m : Int)] w fun e w' => e = .returned (smallT (small s.data.toList m)) ∧ w' = w := by
  have hr := fun w => refNumber s hm w
  have hlt : ∀ v, numR s.data.toList = some v → v < 18446744073709551616 := fun v h => (numR_dec h).2
  unfold small
  generalize numR s.data.toList = o at *
  have w1 : IntKind.u64.wrap (m : Int) = (m : Int) := u64_in _ (by omega) (by omega)
  cases o with
  | none =>
    have HR := Lib.hid hr
    clear hr hlt
    go_enter Tryd.func38, Tryd.ntmps38
    go_wp2_with (go_at_call 40; refine (HR.out _).mono ?_; rintro e w' ⟨rfl, rfl⟩; unfold numT)
    go_ret2
    exact ⟨rfl, rfl⟩
  | some v =>
    have hv := hlt v rfl
    have HR := Lib.hid hr
    clear hr hlt
    simp only [Option.bind_some]
    by_cases h : v ≤ m
    · rw [if_pos h]
      have a1 : ¬ (m : Int) < (v : Int) := by omega
      have w2 : IntKind.i64.wrap (v : Int) = (v : Int) := IntWalk.i64_in _ (by omega)
      go_enter Tryd.func38, Tryd.ntmps38
      go_wp2_with (go_at_call 40; refine (HR.out _).mono ?_; rintro e w' ⟨rfl, rfl⟩; unfold numT)
      go_ret2
      exact ⟨rfl, rfl⟩
    · rw [if_neg h]
      have a1 : (m : Int) < (v : Int) := by omega
      go_enter Tryd.func38, Tryd.ntmps38
      go_wp2_with (go_at_call 40; refine (HR.out _).mono ?_; rintro e w' ⟨rfl, rfl⟩; unfold numT)
      go_ret2
      exact ⟨rfl, rfl⟩
def bytesT : Option (List UInt8) → Value
  | some l => .tuple #[.string ⟨l.toArray⟩, .bool true]
  | none => .tuple #[.string ⟨#[]⟩, .bool false]
theorem refBytes_dash (w : World) : Calls Tryd.prog 41 #[.string ⟨#[45]⟩] w fun e w' => e = .returned (bytesT (bytesR [45])) ∧ Below w.heap.size w w' := by
  go_enter Tryd.func41, Tryd.ntmps41
  go_wp2
  go_ret2
  exact ⟨rfl, Below.refl _ _⟩
theorem refBytes_empty (w : World) : Calls Tryd.prog 41 #[.string ⟨#[]⟩] w fun e w' => e = .returned (bytesT (bytesR [])) ∧ Below w.heap.size w w' := by
  go_enter Tryd.func41, Tryd.ntmps41
  go_wp2
  go_ret2
  exact ⟨rfl, Below.refl _ _⟩
theorem toList_ne {s : ByteArray} {l : List UInt8} (h : s.data.toList ≠ l) : (s.toList == l) = false := by
  rw [ByteArray.toList_eq, beq_eq_false_iff_ne]
  exact h
theorem refBytes_odd (s : ByteArray) (h1 : s.data.toList ≠ [45]) (h : s.size % 2 = 1) (hm : s.size ≤ 1000) (w : World) : Calls Tryd.prog 41 #[.string s] w fun e w' => e = .returned (bytesT (bytesR s.data.toList)) ∧ Below w.heap.size w w' := by
  have hn : bytesR s.data.toList = none := by
    unfold bytesR
    rw [if_neg h1, if_neg, pairs_odd _ (by rw [len_bytes]; exact h)]
    intro e
    have := len_bytes s; rw [e] at this; simp at this; omega
  rw [hn]
  have hne := not_empty (s := s) (by omega)
  have hd : (s.toList == [45]) = false := toList_ne h1
  have e1 : Int.tmod (s.size : Int) 2 = 1 := by rw [Int.tmod_eq_emod_of_nonneg (by omega)]; omega
  have e2 : (s.size : Int) % 2 = 1 := by omega
  clear h1 hn h
  go_enter Tryd.func41, Tryd.ntmps41
  go_wp2
  go_ret2
  exact ⟨rfl, Below.refl _ _⟩
theorem ofNat_toNat {n : Nat} (h : n < 256) : (UInt8.ofNat n).toNat = n := by simp; omega
theorem vB_upTo (f : UInt8 → Nat) (l : List UInt8) (k n : Nat) (hn : n < 256) (h : 16 * f (l.getD (2 * k) 0) + f (l.getD (2 * k + 1) 0) = n) : vB (upTo f l (k + 1)) = vB (upTo f l k) ++ [.int .u8 (n : Int)] := by
  have e : (pairV f l k).toNat = n := by unfold pairV; rw [h]; exact ofNat_toNat hn
  rw [upTo_succ]
  simp [vB, e]
def B1 (l : List UInt8) (w wr : World) (v : Value) (k : Nat) : Prop := wr.ownsRow w.heap.size 5 1 v k (vB (upTo nibR l k)) ∧ Below w.heap.size w wr ∧ PairsAt l k
set_option maxHeartbeats 4000000 in
theorem refBytes_even (s : ByteArray) (h0 : 0 < s.size) (h : s.size % 2 = 0) (hm : s.size ≤ 1000) (w : World) : Calls Tryd.prog 41 #[.string s] w fun e w' => e = .returned (bytesT (bytesR s.data.toList)) ∧ Below w.heap.size w w' := by
  have hl := len_bytes s
  have h1 : s.data.toList ≠ [45] := by intro e; rw [e] at hl; simp at hl; omega
  have hn : bytesR s.data.toList = pairs s.data.toList := by
    unfold bytesR
    rw [if_neg h1, if_neg]
    intro e
    rw [e] at hl; simp at hl; omega
  rw [hn]
  obtain ⟨i0, hi, hz0, hz1, hz2⟩ := info_parts (show (Tryd.prog.info? 5).map (fun i => (i.zero, i.size, i.bytes)) = some (some (.int .u8 0), 1, 1) by kernel_rfl)
  have HI := Lib.hid hi
  have HZ0 := Lib.hid hz0
  have HZ1 := Lib.hid hz1
  have HZ2 := Lib.hid hz2
  have HL := Lib.hid hl
  have HEV := Lib.hid h
  have hne := not_empty (s := s) h0
  have hd : (s.toList == [45]) = false := toList_ne h1
  have e1 : Int.tmod (s.size : Int) 2 = 0 := by rw [Int.tmod_eq_emod_of_nonneg (by omega)]; omega
  have e2 : (s.size : Int) % 2 = 0 := by omega
  clear h1 hn h hi hz0 hz1 hz2 hl
  go_enter Tryd.func41, Tryd.ntmps41
  go_wp2
  clear e1 e2 hne hd
  go_loopw [4, 5] (fun v i wr => ∃ k j : Nat, Hid (j = 2 * k) ∧ j ≤ s.size ∧ i = .int .i64 (j : Int) ∧ B1 s.data.toList w wr v k) (fun _ i _ => s.size - (intOf i).toNat)
  case atStart => exact ⟨0, 0, Lib.hid rfl, by omega, rfl, World.ownsRow_nil w w.heap.size 5 1, Below.refl _ _, pairsAt_zero _⟩
  case round =>
    obtain ⟨k, j, HJ, hk, rfl, hr, hb, hp⟩ := hrel
    have HR := Lib.hid hr
    have HB := Lib.hid hb
    have HP := Lib.hid hp
    clear hr hb hp
    by_cases hlt : j < s.size
    · have h2 : j + 1 < s.size := by have := HJ.out; have := HEV.out; omega
      have d1 : decide ((j : Int) < (s.size : Int)) = true := by simp; omega
      have xk := idx (s := s) (i := (j : Int)) (j := j) rfl hlt
      have wk : IntKind.i64.wrap ((j : Int) + 1) = (j : Int) + 1 := IntWalk.i64_in _ (by omega)
      have xk1 := idx (s := s) (i := (j : Int) + 1) (j := j + 1) rfl h2
      have N1 := Lib.hid (show ∀ w, Calls Tryd.prog 53 #[.int .u8 (bt s.data.toList j : Int)] w fun e w' => e = .returned (.int .i64 (nibR (s.data.toList.getD j 0) : Nat)) ∧ w' = w from fun w => nibble (s.data.toList.getD j 0) w)
      have N2 := Lib.hid (show ∀ w, Calls Tryd.prog 53 #[.int .u8 (bt s.data.toList (j + 1) : Int)] w fun e w' => e = .returned (.int .i64 (nibR (s.data.toList.getD (j + 1) 0) : Nat)) ∧ w' = w from fun w => nibble (s.data.toList.getD (j + 1) 0) w)
      have hna := nib_lt (s.data.toList.getD j 0)
      have hnb := nib_lt (s.data.toList.getD (j + 1) 0)
      have hpk : 2 * k + 1 < s.data.toList.length := by have := HJ.out; rw [HL.out]; omega
      have hbad := pairsAt_bad HP.out hpk
      have hgood := pairsAt_succ HP.out hpk
      have hup := vB_upTo nibR s.data.toList k
      rw [← HJ.out] at hbad hgood hup
      generalize nibR (s.data.toList.getD j 0) = x at *
      generalize nibR (s.data.toList.getD (j + 1) 0) = y at *
      generalize bt s.data.toList j = c1 at *
      generalize bt s.data.toList (j + 1) = c2 at *
      have HBAD := Lib.hid hbad
      have HGOOD := Lib.hid hgood
      have HUP := Lib.hid hup
      clear hbad hgood hup hpk
      by_cases b1 : 15 < x
      · have a1 : (15 : Int) < (x : Int) := by omega
        have HE := Lib.hid (HBAD.out (.inl b1))
        go_wp2_with (first | (go_at_call 53; ((with_reducible refine (N1.out _).mono ?_); rintro e w1 ⟨rfl, rfl⟩)) | (go_at_call 53; ((with_reducible refine (N2.out _).mono ?_); rintro e w1 ⟨rfl, rfl⟩)))
        go_ret2
        rw [HE.out]
        exact ⟨rfl, HB.out⟩
      · have a1 : ¬ (15 : Int) < (x : Int) := by omega
        by_cases b2 : 15 < y
        · have a2 : (15 : Int) < (y : Int) := by omega
          have HE := Lib.hid (HBAD.out (.inr b2))
          go_wp2_with (first | (go_at_call 53; ((with_reducible refine (N1.out _).mono ?_); rintro e w1 ⟨rfl, rfl⟩)) | (go_at_call 53; ((with_reducible refine (N2.out _).mono ?_); rintro e w1 ⟨rfl, rfl⟩)))
          go_ret2
          rw [HE.out]
          exact ⟨rfl, HB.out⟩
        · have a2 : ¬ (15 : Int) < (y : Int) := by omega
          have HG2 := Lib.hid (HGOOD.out (by omega) (by omega))
          have HU2 := Lib.hid (HUP.out (16 * x + y) (by omega) rfl)
          have w1 : IntKind.i64.wrap (16 * (x : Int)) = 16 * (x : Int) := IntWalk.i64_in _ (by omega)
          have w2 : IntKind.i64.wrap (16 * (x : Int) + (y : Int)) = 16 * (x : Int) + (y : Int) := IntWalk.i64_in _ (by omega)
          have w3 : IntKind.u8.wrap (16 * (x : Int) + (y : Int)) = 16 * (x : Int) + (y : Int) := by simp [IntKind.wrap, IntKind.bits, IntKind.signed]; omega
          have w4 : IntKind.i64.wrap ((j : Int) + 2) = (j : Int) + 2 := IntWalk.i64_in _ (by omega)
          have hu := HB.out.size
          clear HBAD HGOOD HUP
          go_wp2_with (first | (go_at_call 53; ((with_reducible refine (N1.out _).mono ?_); rintro e w1 ⟨rfl, rfl⟩)) | (go_at_call 53; ((with_reducible refine (N2.out _).mono ?_); rintro e w1 ⟨rfl, rfl⟩)) | (at_builtin; go_must (refine wpList_append_one _ rfl (.tmp 39) (.tmp 45) 76 rfl w.heap.size 5 i0 (.int .u8 0) 1 Tryd.underlying76 HI.out HZ0.out HZ1.out HZ2.out rfl (.int .u8 (16 * (x : Int) + (y : Int))) rfl _ k _ rfl HR.out rfl (by unfold maxLen; have := HJ.out; omega) (by have := HJ.out; omega) hu ?_); intro v' w1 hown' hgrow _))
          go_roundw
          case rel =>
            have hj := HJ.out
            refine ⟨k + 1, j + 2, Lib.hid (by omega), by omega, by go_num, ?_, (HB.out.alloc HB.out.size _).grown hgrow (by simp; omega) (own_ge HR.out), HG2.out⟩
            rw [HU2.out, show (((16 * x + y : Nat) : Int)) = 16 * (x : Int) + (y : Int) by omega]
            exact hown'
          case measure => simp [intOf]; omega
    · have hj : j = s.size := by omega
      have HE := Lib.hid (pairsAt_end HP.out (by rw [HL.out, ← HJ.out, hj]; omega))
      subst hj
      obtain ⟨g, cap, rfl, hg1, hg2⟩ := own_slice HR.out (by have := HJ.out; omega)
      have hcv := convO _ _ HR.out
      go_wp2
      go_ret2
      rw [HE.out]
      exact ⟨rfl, HB.out⟩
end Go.Proofs.YtoahfegeeimomaaDoor.Loops2
