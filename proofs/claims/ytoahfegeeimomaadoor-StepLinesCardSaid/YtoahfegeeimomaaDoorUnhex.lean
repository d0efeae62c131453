/- step.unhex. Conditions: as stated in each theorem. -/
import Derived.Test.YtoahfegeeimomaaDoorLoops2
set_option linter.unusedVariables false
set_option linter.unusedSimpArgs false
namespace Go.Proofs.YtoahfegeeimomaaDoor.Unhex
open Go.RowKit Base RowD Number TextP LinesPlain Num Tail Hex LoopsPlain Loops Loops2
set_option maxRecDepth 100000

def ixv (b : UInt8) : Int := if nibR b = 16 then -1 else (nibR b : Int)
theorem ix_all : ∀ m : Fin 256, Lib.indexByte [48, 49, 50, 51, 52, 53, 54, 55, 56, 57, 97, 98, 99, 100, 101, 102] (UInt8.ofNat m.val) = ixv (UInt8.ofNat m.val) := by decide +kernel
theorem indexHex (b : UInt8) (w : World) : Calls Tryd.prog 50 #[.string ⟨#[48, 49, 50, 51, 52, 53, 54, 55, 56, 57, 97, 98, 99, 100, 101, 102]⟩, .int .u8 (b.toNat : Int)] w fun e w' => e = .returned (.int .i64 (ixv b)) ∧ w' = w := by
  refine (Tryd.strings_IndexByte _ _ _).mono ?_
  rintro e w' ⟨rfl, rfl⟩
  have := ix_all ⟨b.toNat, b.toNat_lt⟩
  simp only [UInt8.ofNat_toNat] at this
  refine ⟨?_, rfl⟩
  have e1 : ((b.toNat : Int).toNat).toUInt8 = b := by simp
  rw [e1]
  exact congrArg (fun z => Ending.returned (.int .i64 z)) this
theorem ixv_max (b : UInt8) : max (ixv b) 0 = (nibP b : Int) := by
  unfold ixv nibP
  split
  · rfl
  · rw [Int.max_eq_left (by omega)]
theorem nibP_lt (b : UInt8) : nibP b ≤ 15 := by
  have := nib_lt b
  unfold nibP
  split <;> omega
theorem or_all : ∀ p q : Fin 16, bits .or .i64 ((p.val : Int) * 16) (q.val : Int) = (p.val : Int) * 16 + (q.val : Int) := by decide +kernel
def U1 (l : List UInt8) (w wr : World) (v : Value) (k : Nat) : Prop := wr.ownsRow w.heap.size 5 1 v k (vB (upTo nibP l k)) ∧ Below w.heap.size w wr
set_option maxHeartbeats 4000000 in
theorem unhex (s : ByteArray) (hm : s.size ≤ 1000) (w : World) : Calls Tryd.prog 32 #[.string s] w fun e w' => e = .returned (.string ⟨(unhexL s.data.toList).toArray⟩) ∧ Below w.heap.size w w' := by
  have hl := len_bytes s
  obtain ⟨i0, hi, hz0, hz1, hz2⟩ := info_parts (show (Tryd.prog.info? 5).map (fun i => (i.zero, i.size, i.bytes)) = some (some (.int .u8 0), 1, 1) by kernel_rfl)
  have HI := Lib.hid hi
  have HZ0 := Lib.hid hz0
  have HZ1 := Lib.hid hz1
  have HZ2 := Lib.hid hz2
  have HL := Lib.hid hl
  clear hi hz0 hz1 hz2 hl
  go_enter Tryd.func32, Tryd.ntmps32
  go_wp2
  go_loopw [3, 4] (fun v i wr => ∃ k j : Nat, Hid (j = 2 * k) ∧ j ≤ s.size ∧ i = .int .i64 (j : Int) ∧ U1 s.data.toList w wr v k) (fun _ i _ => s.size - (intOf i).toNat)
  case atStart => exact ⟨0, 0, Lib.hid rfl, by omega, rfl, World.ownsRow_nil w w.heap.size 5 1, Below.refl _ _⟩
  case round =>
    obtain ⟨k, j, HJ, hk, rfl, hr, hb⟩ := hrel
    have HR := Lib.hid hr
    have HB := Lib.hid hb
    clear hr hb
    have wk : IntKind.i64.wrap ((j : Int) + 1) = (j : Int) + 1 := IntWalk.i64_in _ (by omega)
    by_cases hlt : j + 1 < s.size
    · have d1 : decide ((j : Int) + 1 < (s.size : Int)) = true := by simp; omega
      have xk := idx (s := s) (i := (j : Int)) (j := j) rfl (by omega)
      have xk1 := idx (s := s) (i := (j : Int) + 1) (j := j + 1) rfl hlt
      have N1 := Lib.hid (show ∀ w, Calls Tryd.prog 50 #[.string ⟨#[48, 49, 50, 51, 52, 53, 54, 55, 56, 57, 97, 98, 99, 100, 101, 102]⟩, .int .u8 (bt s.data.toList j : Int)] w fun e w' => e = .returned (.int .i64 (ixv (s.data.toList.getD j 0))) ∧ w' = w from fun w => indexHex (s.data.toList.getD j 0) w)
      have N2 := Lib.hid (show ∀ w, Calls Tryd.prog 50 #[.string ⟨#[48, 49, 50, 51, 52, 53, 54, 55, 56, 57, 97, 98, 99, 100, 101, 102]⟩, .int .u8 (bt s.data.toList (j + 1) : Int)] w fun e w' => e = .returned (.int .i64 (ixv (s.data.toList.getD (j + 1) 0))) ∧ w' = w from fun w => indexHex (s.data.toList.getD (j + 1) 0) w)
      have hna := nibP_lt (s.data.toList.getD j 0)
      have hnb := nibP_lt (s.data.toList.getD (j + 1) 0)
      have hma := ixv_max (s.data.toList.getD j 0)
      have hmb := ixv_max (s.data.toList.getD (j + 1) 0)
      have hup := vB_upTo nibP s.data.toList k
      rw [← HJ.out] at hup
      generalize ixv (s.data.toList.getD j 0) = x at *
      generalize ixv (s.data.toList.getD (j + 1) 0) = y at *
      generalize nibP (s.data.toList.getD j 0) = p at *
      generalize nibP (s.data.toList.getD (j + 1) 0) = q at *
      generalize bt s.data.toList j = c1 at *
      generalize bt s.data.toList (j + 1) = c2 at *
      have HU2 := Lib.hid (hup (16 * p + q) (by omega) rfl)
      clear hup
      go_wp2
      go_quiet ((first | (go_at_call 50; exact Calls.quiet_of_same ((N1.out _).mono fun _ _ h => h)) | (go_at_call 50; exact Calls.quiet_of_same ((N2.out _).mono fun _ _ h => h))))
      have HR2 := Lib.hid (own_drewN HR.out nq)
      have HB2 := Lib.hid (belowDrewN HB.out nq)
      clear HR HB xk xk1 N1 N2
      generalize wr.drewN nq = w2 at *
      have hu := HB2.out.size
      have hor := or_all ⟨p, by omega⟩ ⟨q, by omega⟩
      simp only at hor
      have hmod : ((p : Int) * 16 + (q : Int)) % 256 = (p : Int) * 16 + (q : Int) := by omega
      have w4 : IntKind.i64.wrap ((j : Int) + 2) = (j : Int) + 2 := IntWalk.i64_in _ (by omega)
      go_wp2_with (at_builtin; go_must (refine wpList_append_one _ rfl (.tmp 23) (.tmp 31) 76 rfl w.heap.size 5 i0 (.int .u8 0) 1 Tryd.underlying76 HI.out HZ0.out HZ1.out HZ2.out rfl (.int .u8 ((p : Int) * 16 + (q : Int))) rfl _ k _ rfl HR2.out rfl (by unfold maxLen; have := HJ.out; omega) (by have := HJ.out; omega) hu ?_); intro v' w1 hown' hgrow _)
      go_roundw
      case rel =>
        have hj := HJ.out
        refine ⟨k + 1, j + 2, Lib.hid (by omega), by omega, by go_num, ?_, (HB2.out.alloc HB2.out.size _).grown hgrow (by simp; omega) (own_ge HR2.out)⟩
        rw [HU2.out, show (((16 * p + q : Nat) : Int)) = (p : Int) * 16 + (q : Int) by omega]
        exact hown'
      case measure => simp [intOf]; omega
    · have hj : s.data.toList.length / 2 = k := by have := HJ.out; rw [HL.out]; omega
      have HE := Lib.hid (show unhexL s.data.toList = upTo nibP s.data.toList k by rw [unhex_upTo, hj])
      have d1 : decide ((j : Int) + 1 < (s.size : Int)) = false := by simp; omega
      clear hj
      by_cases h0 : k = 0
      · have hcv : ∀ w, (convert 76 9 (.slice none 0 0)).run Tryd.prog w = .ok (.string ⟨#[]⟩) w := fun _ => by kernel_rfl
        obtain ⟨_, hv⟩ := HR.out
        subst h0
        rcases hv with ⟨rfl, _⟩ | ⟨g, cap, cur, rfl, _⟩
        · go_wp2
          go_ret
          rw [HE.out]
          exact ⟨rfl, HB.out⟩
        · have hcv := convO _ _ HR.out
          go_wp2
          go_ret
          rw [HE.out]
          exact ⟨rfl, HB.out⟩
      · obtain ⟨g, cap, rfl, hg1, hg2⟩ := own_slice HR.out (by omega)
        have hcv := convO _ _ HR.out
        go_wp2
        go_ret
        rw [HE.out]
        exact ⟨rfl, HB.out⟩
end Go.Proofs.YtoahfegeeimomaaDoor.Unhex
