/- The reference's Of: the sum of some bytes (up to 300). Conditions: as stated in each theorem. -/
import Derived.Test.YtclpjmhanhocoaaShaOf
set_option linter.unusedVariables false
set_option linter.unusedSimpArgs false
namespace Go.Proofs.Ytclpjmhanhocoaa.ShaOfRef
open Go.RowKit Base Sha ShaRot ShaTab ShaRow ShaSpread ShaInv ShaTurn ShaApp ShaPad ShaOf
set_option maxRecDepth 100000

def Q2 (w wr : World) (gs : Nat) (st : St) : Prop := Row wr w.heap.size Z32 90 ∧ Row wr gs (vals st) 103 ∧ Below w.heap.size w wr
theorem Q2.below {w w1 w2 : World} {g4 : Nat} {st : St} (h : Q2 w w1 g4 st) (hb : Below w1.heap.size w1 w2) {g : Nat} {st' : St} (hr : Row w2 g (vals st') 103) : Q2 w w2 g st' := ⟨h.1.below hb, hr, h.2.2.trans (hb.mono h.2.2.size)⟩
theorem byte_j (st : St) (t j x D : Nat) (hj : j < 4) (hx : x = getW st t) (hD : D = 2 ^ (24 - 8 * j)) : (((byteAt st (4 * t + j)).toNat : Nat) : Int) = (x : Int) / (D : Int) % 256 := by
  rw [byteAt_nat, hx, hD, show (4 * t + j) / 4 = t by omega, show (4 * t + j) % 4 = j by omega]
  simp
def R2 (w wr : World) (g4 g5 : Nat) (st : St) (t : Nat) : Prop := Row wr w.heap.size Z32 90 ∧ Row wr g4 (vals st) 103 ∧ Row wr g5 (bytesA (outL st t)) 90 ∧ Below w.heap.size w wr
theorem R2.set {w wr : World} {g4 g5 : Nat} {st : St} {t : Nat} (h : R2 w wr g4 g5 st t) (ht : t < 32) (h5 : w.heap.size < g5) (h4 : g4 < g5) : R2 w (wr.setCell ⟨g5, t, none⟩ (.int .u8 (((byteAt st t).toNat : Nat) : Int))) g4 g5 st (t + 1) := by
  have h3 := h.2.2.1.set t (.int .u8 (((byteAt st t).toNat : Nat) : Int))
  rw [bytesA_set, outL_set _ _ ht] at h3
  exact ⟨h.1.setOther (by omega) _ _, h.2.1.setOther (by omega) _ _, h3, belowSet h.2.2.2 (by omega) _ _⟩
set_option maxHeartbeats 600000 in
theorem refOf (d : ByteArray) (hd : d.size ≤ 300) (w : World) : Calls Try.prog 58 #[.string d] w fun e w' => e = .returned (.agg (bytesA (bytes32 (Sha.sum d.data.toList)))) ∧ Below w.heap.size w w' := by
  obtain ⟨l, hl⟩ : ∃ l, l = d.data.toList := ⟨_, rfl⟩
  obtain rfl : d = mkS l := by rw [hl, mkS_self]
  have hn : l.length ≤ 300 := by rw [← mkS_size]; exact hd
  have hsz := mkS_size l
  rw [mkS_list]
  clear hl hd
  have hz : zeros l.length ≤ 63 := by unfold zeros; omega
  have hsum : ∀ w' : World, (Op.stringOp .add (mkS l) (mkS (pad l.length))).run Try.prog w' = .ok (.string (mkS (allB l))) w' := fun w' => by
    have := run_string_add_sum (P := Try.prog) w' (mkS l) (mkS (pad l.length)) (by rw [mkS_size, mkS_size, pad_length]; omega)
    rw [this, mkS_app]
    rfl
  have hpad := fun w' => refPad l.length hn w'
  change ∀ w', Calls Try.prog 68 #[.int .i64 (l.length : Int)] w' fun e w'' => e = .returned (.string (mkS (pad l.length))) ∧ Below w'.heap.size w' w'' at hpad
  have HPAD := Lib.hid hpad
  have hall2 : (allB l).length ≤ 400 := by simp [allB, pad_length]; omega
  clear hpad hz
  go_enter Try.func58, Try.ntmps58
  go_wp2_with (first | (go_at_call 68; refine (HPAD.out _).mono ?_; rintro e w9 ⟨rfl, hb⟩) | (go_at_call 69; refine (start69 _).mono ?_; rintro e w10 ⟨rfl, rfl⟩))
  have hQ : Q2 w (w9.alloc (.cells (vals Sha.start) 103)) w9.heap.size (run (allB l) 0) := by
    have s1 : w.heap.size + 1 ≤ w9.heap.size := by have := hb.size; simpa using this
    have s0 : w.heap.size ≤ (w.alloc (.cells Z32 90)).heap.size := by simp
    refine ⟨((Row.new w Z32 90).below hb).alloc _, Row.new w9 (vals Sha.start) 103, ?_⟩
    exact (((Below.refl w.heap.size w).alloc (Nat.le_refl _) (.cells Z32 90)).trans (hb.mono s0)).alloc (by omega) _
  have HQ := Lib.hid hQ
  clear hQ hb
  generalize w9.alloc (.cells (vals Sha.start) 103) = w11 at *
  have hall := all_whole l
  have HSR := Lib.hid (sum_run l)
  have hms := mkS_size (allB l)
  have hcut := fun k : Nat => mkS_cut (allB l) (64 * k) (64 * k + 64)
  have hdl := fun k : Nat => (List.length_drop (i := 64 * k) (l := allB l))
  have hrun : ∀ k, run (allB l) (k + 1) = turn (run (allB l) k) (((allB l).drop (64 * k)).take 64) := fun _ => rfl
  have hok := fun k => run_ok (allB l) k
  have HCUT := Lib.hid hcut
  have HDL := Lib.hid hdl
  have HRUN := Lib.hid hrun
  have HOK := Lib.hid hok
  clear hcut hdl hrun hok
  generalize allB l = L at *
  generalize blocks l = N at *
  have HALL := Lib.hid hall
  clear hall hsum
  obtain ⟨n, hn2⟩ : ∃ n, n = L.length := ⟨_, rfl⟩
  rw [← hn2] at hms hall2
  have HN2 := Lib.hid hn2
  clear hn2
  go_loopw [4, 5] (fun v i wr => ∃ (k gs at_ : Nat), k ≤ N ∧ at_ = 64 * k ∧ i = .int .i64 at_ ∧ v = .slice (some ⟨gs, 0, none⟩) 8 8 ∧ Q2 w wr gs (run L k)) (fun _ i _ => 1000 - (intOf i).toNat)
  case atStart => exact ⟨0, w9.heap.size, 0, by omega, by omega, rfl, rfl, HQ.out⟩
  case round =>
    clear HQ
    obtain ⟨k, gs, at_, hk, hat, rfl, rfl, hQ⟩ := hrel
    have HQ := Lib.hid hQ
    have HAT := Lib.hid hat
    clear hQ
    have hLn : n = 64 * N := by rw [HN2.out, HALL.out]
    by_cases hlt : k < N
    · have hle : at_ + 64 ≤ n := by omega
      have e1 : IntKind.i64.wrap ((at_ : Int) + 64) = (at_ : Int) + 64 := IntWalk.i64_in _ (by omega)
      have d1 : decide ((at_ : Int) + 64 ≤ (n : Int)) = true := by simp; omega
      have l64 : (at_ : Int) + 64 ≤ (n : Int) := by omega
      have x1 : (mkS L).extract at_ (at_ + 64) = mkS ((L.drop (64 * k)).take 64) := by
        rw [HAT.out, HCUT.out k]
        congr 2
        omega
      have h64 : (mkS ((L.drop (64 * k)).take 64)).size = 64 := by
        rw [mkS_size, List.length_take, HDL.out, ← HN2.out]
        omega
      have hnext : run L (k + 1) = turn (run L k) (mkS ((L.drop (64 * k)).take 64)).data.toList := by rw [mkS_list]; exact HRUN.out k
      have HN := Lib.hid hnext
      have H64 := Lib.hid h64
      have HOK2 := Lib.hid (HOK.out k)
      clear hnext h64 hLn hat
      generalize mkS ((L.drop (64 * k)).take 64) = blk at *
      obtain ⟨st, hst⟩ : ∃ st, st = run L k := ⟨_, rfl⟩
      rw [← hst] at HN HOK2 HQ
      clear hst
      go_wp2_with (go_at_call 70; refine (ShaRef.refTurn st blk H64.out HOK2.out _ gs 8 HQ.out.2.1).mono ?_; rintro e w2 ⟨g', rfl, hrow, hbel⟩)
      go_roundw
      case rel =>
        refine ⟨k + 1, g', at_ + 64, by omega, by rw [HAT.out]; omega, by go_num, rfl, ?_⟩
        rw [HN.out]
        exact HQ.out.below hbel hrow
      case measure => simp [intOf]; omega
    · obtain rfl : k = N := by omega
      have d0 : decide ((at_ : Int) + 64 ≤ (n : Int)) = false := by simp; omega
      have l0 : ¬ ((at_ : Int) + 64 ≤ (n : Int)) := by omega
      have e1 : IntKind.i64.wrap ((at_ : Int) + 64) = (at_ : Int) + 64 := IntWalk.i64_in _ (by omega)
      have hg5 : gs < wr.heap.size := HQ.out.2.1.lt
      have hg6 : w.heap.size < wr.heap.size := HQ.out.1.lt
      have HOK2 := Lib.hid (HOK.out k)
      clear hLn hat
      generalize run L k = st at *
      go_wp2_with fail
      have hR0 : R2 w (wr.alloc (.cells Z32 90)) gs wr.heap.size st 0 := ⟨HQ.out.1.alloc _, HQ.out.2.1.alloc _, by rw [outL_zero]; exact Row.new _ _ _, HQ.out.2.2.alloc HQ.out.2.2.size _⟩
      have HR0 := Lib.hid hR0
      clear hR0 HQ
      change Code.wp _ _ _ _ (wr.alloc (.cells Z32 90))
      generalize wr.heap.size = g6 at *
      generalize wr.alloc (.cells Z32 90) = w1 at *
      go_loopw [7] (fun i w2 => ∃ t : Nat, t ≤ 8 ∧ i = .int .i64 t ∧ R2 w w2 gs g6 st (4 * t)) (fun i _ => 8 - (intOf i).toNat)
      case atStart => exact ⟨0, by omega, rfl, HR0.out⟩
      case round =>
        clear HR0 e1 d0 l0
        obtain ⟨t, ht, rfl, hR⟩ := hrel
        have HR := Lib.hid hR
        clear hR
        by_cases hlt : t < 8
        · have d1 : decide ((t : Int) < 8) = true := by simp; omega
          have tI : (t : Int) < 8 := by omega
          have e0 : IntKind.i64.wrap (4 * (t : Int)) = ((4 * t : Nat) : Int) := by rw [IntWalk.i64_in _ (by omega)]; omega
          have e1 : IntKind.i64.wrap (((4 * t : Nat) : Int) + 1) = ((4 * t + 1 : Nat) : Int) := by rw [IntWalk.i64_in _ (by omega)]; omega
          have e2 : IntKind.i64.wrap (((4 * t : Nat) : Int) + 2) = ((4 * t + 2 : Nat) : Int) := by rw [IntWalk.i64_in _ (by omega)]; omega
          have e3 : IntKind.i64.wrap (((4 * t : Nat) : Int) + 3) = ((4 * t + 3 : Nat) : Int) := by rw [IntWalk.i64_in _ (by omega)]; omega
          obtain ⟨x, hx⟩ : ∃ x, x = getW st t := ⟨_, rfl⟩
          have y0 := byte_j st t 0 x 16777216 (by omega) hx rfl
          have y1 := byte_j st t 1 x 65536 (by omega) hx rfl
          have y2 := byte_j st t 2 x 256 (by omega) hx rfl
          have y3 := byte_j st t 3 x 1 (by omega) hx rfl
          have Y0 := Lib.hid y0
          have Y1 := Lib.hid y1
          have Y2 := Lib.hid y2
          have Y3 := Lib.hid y3
          clear y0 y1 y2 y3
          have hcell : ∀ (w' : World) (j : Nat), j < 4 → R2 w w' gs g6 st (4 * t + j) → w'.cell? ⟨gs, t, none⟩ = some (.int .u32 (x : Int)) ∧ w'.frozen? ⟨g6, 4 * t + j, none⟩ = false ∧ ∃ v, w'.cell? ⟨g6, 4 * t + j, none⟩ = some v := by
            intro w' j hj h
            refine ⟨by rw [hx]; exact h.2.1.cell t (arr8_at (getW st) t hlt), h.2.2.1.free _, _, h.2.2.1.cell (4 * t + j) (bytesA_at _ _ (by rw [outL_length _ _ (by omega)]; omega))⟩
          have HC := Lib.hid hcell
          clear hx hcell
          obtain ⟨c1, f1, v1, c2⟩ := HC.out _ 0 (by omega) HR.out
          simp only [Nat.add_zero] at f1 c2
          go_upto_region 12 with fail
          have hR1 := HR.out.set (by omega) hg6 hg5
          rw [← Nat.add_zero (4 * t), Y0.out] at hR1
          change R2 w (World.setCell _ ⟨g6, 4 * t, none⟩ (.int .u8 ((x : Int) / 16777216 % 256))) gs g6 st (4 * t + 1) at hR1
          have HR1 := Lib.hid hR1
          clear hR1 HR c1 f1 c2
          generalize World.setCell _ ⟨g6, 4 * t, none⟩ _ = w2 at *
          obtain ⟨c1, f1, v1, c2⟩ := HC.out _ 1 (by omega) HR1.out
          go_upto_region 13 with fail
          have hR2 := HR1.out.set (by omega) hg6 hg5
          rw [Y1.out] at hR2
          change R2 w (World.setCell _ ⟨g6, 4 * t + 1, none⟩ (.int .u8 ((x : Int) / 65536 % 256))) gs g6 st (4 * t + 2) at hR2
          have HR2 := Lib.hid hR2
          clear hR2 HR1 c1 f1 c2
          generalize World.setCell _ ⟨g6, 4 * t + 1, none⟩ _ = w3 at *
          obtain ⟨c1, f1, v2, c2⟩ := HC.out _ 2 (by omega) HR2.out
          go_upto_region 14 with fail
          have hR3 := HR2.out.set (by omega) hg6 hg5
          rw [Y2.out] at hR3
          change R2 w (World.setCell _ ⟨g6, 4 * t + 2, none⟩ (.int .u8 ((x : Int) / 256 % 256))) gs g6 st (4 * t + 3) at hR3
          have HR3 := Lib.hid hR3
          clear hR3 HR2 c1 f1 c2
          generalize World.setCell _ ⟨g6, 4 * t + 2, none⟩ _ = w4 at *
          obtain ⟨c1, f1, v3, c2⟩ := HC.out _ 3 (by omega) HR3.out
          go_wp2
          go_roundw
          case rel =>
            refine ⟨t + 1, by omega, by go_num, ?_⟩
            have hR4 := HR3.out.set (by omega) hg6 hg5
            rw [Y3.out] at hR4
            have e : (x : Int) / ((1 : Nat) : Int) % 256 = (x : Int) % 256 := by simp
            rw [e] at hR4
            exact hR4
          case measure => simp [intOf]; omega
        · obtain rfl : t = 8 := by omega
          have hR5 := HR.out.2.2.1
          rw [show 4 * 8 = 32 from rfl, outL_end] at hR5
          have hz := bytesA_size (bytes32 st)
          rw [bytes32_length] at hz
          have h1 := bytesA_one (bytes32 st)
          have HZ := Lib.hid hz
          have H1 := Lib.hid h1
          have HR5 := Lib.hid hR5
          clear hz h1 hR5
          go_wp2_with (first | (refine wpList_load_row rfl 90 _ rfl _ rfl 90 _ _ _ HR5.out.is Try.underlying90 rfl (by rw [HZ.out]; kernel_rfl) ?_) | (refine wpList_store_rowTo rfl 90 _ _ rfl rfl w.heap.size (bytesA (bytes32 st)) rfl rfl 90 Z32 HR.out.1.is (by rw [HZ.out]; kernel_rfl) (by rw [HZ.out]; rfl) H1.out ?_))
          have hRR := (HR.out.1).row (ys := bytesA (bytes32 st))
          rw [HSR.out]
          exact bodyPost_ret (v := .agg (bytesA (bytes32 st))) (results_cell_row Try.results58 _ _ w.heap.size 90 _ (0, 0) _ rfl hRR.is Try.underlying90 rfl (by rw [HZ.out]; kernel_rfl)) rfl ⟨rfl, belowRow HR.out.2.2.2 (Nat.le_refl _) _⟩
end Go.Proofs.Ytclpjmhanhocoaa.ShaOfRef
