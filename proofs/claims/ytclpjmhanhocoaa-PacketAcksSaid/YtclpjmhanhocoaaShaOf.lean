/- sha.Of: the sum of some bytes (up to 300). Conditions: as stated in each theorem. -/
import Derived.Test.YtclpjmhanhocoaaShaRef
import Derived.Test.YtclpjmhanhocoaaShaPad
set_option linter.unusedVariables false
set_option linter.unusedSimpArgs false
namespace Go.Proofs.Ytclpjmhanhocoaa.ShaOf
open Go.RowKit Base Sha ShaRot ShaTab ShaRow ShaSpread ShaInv ShaTurn ShaApp ShaPad
set_option maxRecDepth 100000

def mkS (l : List UInt8) : ByteArray := ⟨l.toArray⟩
theorem mkS_size (l : List UInt8) : (mkS l).size = l.length := by simp [mkS, ByteArray.size]
theorem mkS_list (l : List UInt8) : (mkS l).data.toList = l := by simp [mkS]
theorem mkS_self (b : ByteArray) : mkS b.data.toList = b := by
  cases b; simp [mkS]
theorem mkS_app (l m : List UInt8) : mkS l ++ mkS m = mkS (l ++ m) := by simp [mkS, ByteArray.mk_append_mk]
theorem mkS_cut (l : List UInt8) (i j : Nat) : (mkS l).extract i j = mkS ((l.drop i).take (j - i)) := by
  unfold mkS
  apply ByteArray.ext
  simp [ByteArray.data_extract]
def byteAt (s : St) (i : Nat) : UInt8 := UInt8.ofNat (getW s (i / 4) / 2 ^ (24 - 8 * (i % 4)))
def bytes32 (s : St) : List UInt8 := (List.range 32).map (byteAt s)
def outL (s : St) (i : Nat) : List UInt8 := (bytes32 s).take i ++ List.replicate (32 - i) 0
theorem bytes32_length (s : St) : (bytes32 s).length = 32 := by simp [bytes32]
theorem outL_length (s : St) (i : Nat) (h : i ≤ 32) : (outL s i).length = 32 := by simp [outL, bytes32_length]; omega
theorem outL_set (s : St) (i : Nat) (h : i < 32) : (outL s i).set i (byteAt s i) = outL s (i + 1) := by
  unfold outL
  have hl : ((bytes32 s).take i).length = i := by simp [bytes32_length]; omega
  rw [List.set_append_right _ _ (by omega), hl, Nat.sub_self, show 32 - i = (32 - (i + 1)) + 1 by omega, List.replicate_succ, List.set_cons_zero, List.take_add_one]
  have : (bytes32 s)[i]? = some (byteAt s i) := by simp [bytes32, List.getElem?_range, h]
  rw [this]
  simp
theorem outL_end (s : St) : outL s 32 = bytes32 s := by
  unfold outL
  rw [List.take_of_length_le (by rw [bytes32_length]; exact Nat.le_refl _)]
  simp
theorem outL_zero (s : St) : outL s 0 = List.replicate 32 0 := by simp [outL]
theorem byteAt_nat (s : St) (i : Nat) : (((byteAt s i).toNat : Nat) : Int) = (getW s (i / 4) : Int) / 2 ^ (24 - 8 * (i % 4)) % 256 := by
  unfold byteAt
  simp
theorem bytesA_one (l : List UInt8) : (bytesA l).all (·.oneCell') = true := by simp [bytesA, Value.oneCell']
def Z32 : Array Value := bytesA (List.replicate 32 0)
set_option maxHeartbeats 1000000 in
theorem join1 (d sep : ByteArray) (g c : Nat) (w : World) (hc : w.cell? ⟨g, 0, none⟩ = some (.string d)) : Calls Try.prog 64 #[.slice (some ⟨g, 0, none⟩) 1 c, .string sep] w fun e w' => e = .returned (.string d) ∧ w' = w := by
  go_enter Try.func64, Try.ntmps64
  go_wp2
  go_ret
  exact ⟨rfl, rfl⟩
/-- all the bytes that are turned -/
def allB (l : List UInt8) : List UInt8 := l ++ pad l.length
def blocks (l : List UInt8) : Nat := (allB l).length / 64
theorem all_whole (l : List UInt8) : (allB l).length = 64 * blocks l := by
  have := whole l.length
  unfold blocks
  have e : (allB l).length = l.length + (9 + zeros l.length) := by simp [allB, pad_length]
  omega
theorem sum_run (l : List UInt8) : Sha.sum l = run (allB l) (blocks l) := by
  unfold Sha.sum blocks allB
  simp
def Q (w wr : World) (g4 : Nat) (st : St) : Prop := Row wr w.heap.size Z32 91 ∧ Row wr g4 (vals st) 104 ∧ Below w.heap.size w wr
theorem Q.drew {w wr : World} {g4 : Nat} {st : St} (h : Q w wr g4 st) : Q w wr.drew g4 st := ⟨h.1.drew, h.2.1.drew, belowDrew h.2.2⟩
theorem Q.below {w w1 w2 : World} {g4 : Nat} {st : St} (h : Q w w1 g4 st) (hb : Below w1.heap.size w1 w2) : Q w w2 g4 st := ⟨h.1.below hb, h.2.1.below hb, h.2.2.trans (hb.mono h.2.2.size)⟩
theorem Q.store {w w1 : World} {g4 : Nat} {st st' : St} (h : Q w w1 g4 st) (hg : w.heap.size + 1 ≤ g4) : Q w (w1.setRow g4 (vals st')) g4 st' := ⟨h.1.rowOther (by omega), h.2.1.row, belowRow h.2.2 (by omega) _⟩
def R (w wr : World) (g4 g5 : Nat) (st : St) (t : Nat) : Prop := Row wr w.heap.size Z32 91 ∧ Row wr g4 (vals st) 104 ∧ Row wr g5 (bytesA (outL st t)) 91 ∧ Below w.heap.size w wr
set_option maxHeartbeats 600000 in
theorem of_ (d : ByteArray) (hd : d.size ≤ 300) (g c : Nat) (w : World) (hc : w.cell? ⟨g, 0, none⟩ = some (.string d)) : Calls Try.prog 57 #[.slice (some ⟨g, 0, none⟩) 1 c] w fun e w' => e = .returned (.agg (bytesA (bytes32 (Sha.sum d.data.toList)))) ∧ Below w.heap.size w w' := by
  obtain ⟨l, hl⟩ : ∃ l, l = d.data.toList := ⟨_, rfl⟩
  obtain rfl : d = mkS l := by rw [hl, mkS_self]
  have hn : l.length ≤ 300 := by rw [← mkS_size]; exact hd
  have hsz := mkS_size l
  rw [mkS_list]
  clear hl hd
  have hc1 : (w.alloc (.cells Z32 91)).cell? ⟨g, 0, none⟩ = some (.string (mkS l)) := by rw [World.cell?_alloc_some _ _ _ (by rw [hc]; rfl)]; exact hc
  have hz : zeros l.length ≤ 63 := by unfold zeros; omega
  have hsum : ∀ w' : World, (Op.stringOp .add (mkS l) (mkS (pad l.length))).run Try.prog w' = .ok (.string (mkS (allB l))) w' := fun w' => by
    have := run_string_add_sum (P := Try.prog) w' (mkS l) (mkS (pad l.length)) (by rw [mkS_size, mkS_size, pad_length]; omega)
    rw [this, mkS_app]
    rfl
  have hpad := fun w' => pad_ l.length hn w'
  change ∀ w', Calls Try.prog 65 #[.int .i64 (l.length : Int)] w' fun e w'' => e = .returned (.string (mkS (pad l.length))) ∧ Below w'.heap.size w' w'' at hpad
  have HPAD := Lib.hid hpad
  have HC := Lib.hid hc1
  clear hpad hc1 hc hz
  go_enter Try.func57, Try.ntmps57
  go_wp2_with (first | (go_at_call 64; refine (join1 (mkS l) _ g c _ HC.out).mono ?_; rintro e w9 ⟨rfl, rfl⟩) | (go_at_call 65; refine (HPAD.out _).mono ?_; rintro e w9 ⟨rfl, hb⟩) | (go_at_call 66; refine (start66 _).mono ?_; rintro e w10 ⟨rfl, hb2⟩) | (refine wpList_store_rowTo rfl 104 _ _ rfl rfl w10.heap.size (vals Sha.start) rfl rfl 104 _ (heap_alloc_new _ _) (by as_aux_lemma => kernel_rfl) (by as_aux_lemma => kernel_rfl) (vals_one _) ?_))
  have hQ : Q w ((w10.alloc (.cells Z8 104)).setRow w10.heap.size (vals Sha.start)) w10.heap.size (run (allB l) 0) := by
    have s1 := hb.size
    have s2 := hb2.size
    have s0 : (w.alloc (.cells Z32 91)).heap.size = w.heap.size + 1 := by simp
    have r0 : Row w10 w.heap.size Z32 91 := ((Row.new w Z32 91).below hb).below hb2
    refine ⟨(r0.alloc _).rowOther (by omega), (Row.new w10 Z8 104).row, belowRow ?_ (by omega) _⟩
    have b1 : Below w.heap.size w w10 := (((Below.refl w.heap.size w).alloc (Nat.le_refl _) (.cells Z32 91)).trans (hb.mono (by omega))).trans (hb2.mono (by omega))
    exact b1.alloc (by omega) _
  have hg4 : w.heap.size + 1 ≤ w10.heap.size := by
    have s1 := hb.size
    have s2 := hb2.size
    have s0 : (w.alloc (.cells Z32 91)).heap.size = w.heap.size + 1 := by simp
    omega
  have HQ := Lib.hid hQ
  clear hQ hb hb2
  change Code.wp _ _ _ _ ((w10.alloc (.cells Z8 104)).setRow w10.heap.size (vals Sha.start))
  generalize w10.heap.size = g4 at *
  generalize World.setRow _ _ _ = w11 at *
  have hall := all_whole l
  have HSR := Lib.hid (sum_run l)
  generalize allB l = L at *
  generalize blocks l = N at *
  go_loopw [3] (fun v wr => ∃ (k : Nat) (M : List UInt8), k ≤ N ∧ M = L.drop (64 * k) ∧ v = .string (mkS M) ∧ Q w wr g4 (run L k)) (fun v _ => match v with | .string s => s.size | _ => 0)
  case atStart => exact ⟨0, L, by omega, by simp, rfl, HQ.out⟩
  case round =>
    clear HQ
    obtain ⟨k, M, hk, hM, rfl, hQ⟩ := hrel
    have HQ := Lib.hid hQ
    clear hQ
    by_cases hlt : k < N
    · have hMl : M.length = 64 * (N - k) := by rw [hM, List.length_drop, hall]; omega
      have hnext : run L (k + 1) = turn (run L k) (mkS (M.take 64)).data.toList := by rw [mkS_list, hM]; rfl
      have hdrop : M.drop 64 = L.drop (64 * (k + 1)) := by rw [hM, List.drop_drop]; congr 1
      have hms := mkS_size M
      have x1 : (mkS M).extract 0 64 = mkS (M.take 64) := by rw [mkS_cut]; simp
      have x2 : (mkS M).extract 64 M.length = mkS (M.drop 64) := by rw [mkS_cut, List.take_of_length_le (by simp)]
      have h64 : (mkS (M.take 64)).size = 64 := by rw [mkS_size]; simp; omega
      have hle : 64 ≤ M.length := by omega
      have hle2 : M.length ≤ 64 * N := by omega
      have HM := Lib.hid hM
      have HN := Lib.hid hnext
      have HD := Lib.hid hdrop
      have H64 := Lib.hid h64
      have HOK := Lib.hid (run_ok L k)
      clear hM hnext hdrop hMl h64
      generalize hMl : M.length = n at *
      have HML := Lib.hid hMl
      clear hMl
      have d1 : decide ((64 : Int) ≤ (n : Int)) = true := by simp; omega
      have l64 : (64 : Int) ≤ (n : Int) := by omega
      generalize run L k = st at *
      go_wp2_with fail
      refine wp_region_any (by kernel_rfl) ?_
      change wpAny _ _ _ _ _ _ _ (World.drew _)
      refine wpAny_take (i := 1) (v := .string (mkS M)) rfl (by kernel_rfl) (by kernel_rfl) (by kernel_rfl) (fun _ _ _ h => h) (Or.inl ⟨by rfl, fun _ => by rfl⟩) ?_
      refine wpAny_take (i := 2) (v := .string (mkS (M.take 64))) rfl (by kernel_rfl) (by kernel_rfl) (by kernel_rfl) (fun _ _ _ h => h) (Or.inl ⟨by rfl, ?hy⟩) ?_
      case hy => (intro w; go_simp)
      refine wpAny_ready (rs := [0]) (by kernel_rfl) (by simp) ?_
      refine AllReady.cons rfl (fun K hK => ?_) AllReady.nil
      refine step_plain rfl ?_
      refine wp_load_row 104 _ rfl g4 rfl 104 (vals st) (0, 0) _ HQ.out.2.1.is Try.underlying104 rfl (by as_aux_lemma => kernel_rfl) (hK _ _ ?_)
      clear hK K
      refine wpAny_ready (rs := [3]) (by kernel_rfl) (by simp) ?_
      refine AllReady.cons rfl (fun K hK => ?_) AllReady.nil
      go_simp
      refine (turn_ st (mkS (M.take 64)) H64.out HOK.out _).mono ?_
      rintro e w2 ⟨rfl, hb⟩
      rw [← HN.out]
      obtain ⟨st', hst'⟩ : ∃ s, s = run L (k + 1) := ⟨_, rfl⟩
      rw [← hst']
      have HST := Lib.hid hst'
      clear hst'
      refine hK _ _ ?_
      clear hK K
      have HQ2 := Lib.hid (HQ.out.drew.below hb)
      clear hb HQ
      refine wpAny_ready (rs := [4]) (by kernel_rfl) (by simp) ?_
      refine AllReady.cons rfl (fun K hK => ?_) AllReady.nil
      refine step_plain rfl ?_
      refine wp_store_row 104 (.tmp 4) (.tmp 21) rfl g4 (vals st') rfl rfl 104 (vals st) HQ2.out.2.1.is (by as_aux_lemma => kernel_rfl) (show 8 = 8 from rfl) (vals_one _) (hK _ _ ?_)
      clear hK K
      refine wpAny_done (by kernel_rfl) ?_ _
      go_wp2
      go_roundw
      case rel =>
        refine ⟨k + 1, M.drop 64, by omega, HD.out, ?_, by rw [← HST.out]; exact HQ2.out.store hg4⟩
        first | rfl | (rw [x2])
      case measure =>
        have e1 : (mkS (M.drop 64)).size = n - 64 := by rw [mkS_size, List.length_drop, HML.out]
        have e2 : (mkS M).size = n := hms
        simp [e1, e2]; omega
    · obtain rfl : k = N := by omega
      obtain rfl : M = [] := by rw [hM]; exact List.drop_of_length_le (by omega)
      have hms : (mkS []).size = 0 := rfl
      clear hM
      generalize run L k = st at *
      go_wp2_with fail
      have hg5 : g4 < wr.heap.size := HQ.out.2.1.lt
      have hg6 : w.heap.size < wr.heap.size := HQ.out.1.lt
      go_loopw [24] (fun i w2 => ∃ t : Nat, t ≤ 32 ∧ i = .int .i64 t ∧ R w w2 g4 wr.heap.size st t) (fun i _ => 32 - (intOf i).toNat)
      case atStart => exact ⟨0, by omega, rfl, HQ.out.1.alloc _, HQ.out.2.1.alloc _, by rw [outL_zero]; exact Row.new _ _ _, HQ.out.2.2.alloc HQ.out.2.2.size _⟩
      case round =>
        obtain ⟨t, ht, rfl, hR⟩ := hrel
        have HR := Lib.hid hR
        clear hR
        by_cases hlt : t < 32
        · obtain ⟨a, ha⟩ : ∃ a, a = t / 4 := ⟨_, rfl⟩
          obtain ⟨m, hm⟩ : ∃ a, a = t % 4 := ⟨_, rfl⟩
          have d1 : decide ((t : Int) < 32) = true := by simp; omega
          have tI : (t : Int) < 32 := by omega
          have e1 : Int.tdiv (t : Int) 4 = (a : Int) := by rw [Int.tdiv_eq_ediv_of_nonneg (by omega)]; omega
          have e2 : (t : Int) / 4 = (a : Int) := by omega
          have e3 : (t : Int) % 4 = (m : Int) := by omega
          have e4 : Int.tmod (t : Int) 4 = (m : Int) := by rw [Int.tmod_eq_emod_of_nonneg (by omega)]; omega
          have aI : (a : Int) < 8 := by omega
          have mI : (m : Int) < 4 := by omega
          have c1 := HR.out.2.1.cell a (arr8_at (getW st) a (by omega))
          have f1 := HR.out.2.2.1.free t
          have c2 := HR.out.2.2.1.cell t (bytesA_at _ t (by rw [outL_length _ _ ht]; omega))
          have HA := Lib.hid ha
          have HMM := Lib.hid hm
          clear ha hm
          generalize hgv : getW st a = x at *
          have HX := Lib.hid hgv
          clear hgv
          go_wp2
          go_roundw
          case rel =>
            refine ⟨t + 1, by omega, by go_num, ?_⟩
            have hv : ((x : Int) / 2 ^ (24 - 8 * m) % 256) = (((byteAt st t).toNat : Nat) : Int) := by rw [byteAt_nat, ← HA.out, ← HMM.out, HX.out]
            have h5 := HR.out.2.2.1.set t (.int .u8 ((byteAt st t).toNat : Int))
            rw [bytesA_set, outL_set _ _ hlt] at h5
            rw [hv]
            exact ⟨HR.out.1.setOther (by omega) _ _, HR.out.2.1.setOther (by omega) _ _, h5, belowSet HR.out.2.2.2 (by omega) _ _⟩
          case measure => simp [intOf]; omega
        · obtain rfl : t = 32 := by omega
          have hR5 := HR.out.2.2.1
          rw [outL_end] at hR5
          have hz := bytesA_size (bytes32 st)
          rw [bytes32_length] at hz
          have h1 := bytesA_one (bytes32 st)
          have HZ := Lib.hid hz
          have H1 := Lib.hid h1
          have HR5 := Lib.hid hR5
          clear hz h1 hR5
          go_wp2_with (first | (refine wpList_load_row rfl 91 _ rfl _ rfl 91 _ _ _ HR5.out.is Try.underlying91 rfl (by rw [HZ.out]; kernel_rfl) ?_) | (refine wpList_store_rowTo rfl 91 _ _ rfl rfl w.heap.size (bytesA (bytes32 st)) rfl rfl 91 Z32 HR.out.1.is (by rw [HZ.out]; kernel_rfl) (by rw [HZ.out]; rfl) H1.out ?_))
          have hRR := (HR.out.1).row (ys := bytesA (bytes32 st))
          rw [HSR.out]
          exact bodyPost_ret (v := .agg (bytesA (bytes32 st))) (results_cell_row Try.results57 _ _ w.heap.size 91 _ (0, 0) _ rfl hRR.is Try.underlying91 rfl (by rw [HZ.out]; kernel_rfl)) rfl ⟨rfl, belowRow HR.out.2.2.2 (Nat.le_refl _) _⟩
end Go.Proofs.Ytclpjmhanhocoaa.ShaOf
