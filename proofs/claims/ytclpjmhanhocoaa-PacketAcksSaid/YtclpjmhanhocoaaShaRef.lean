/- The reference's Turn: a state turned by a block. Conditions: as stated in each theorem. -/
import Derived.Test.YtclpjmhanhocoaaShaTail
import Derived.Test.YtclpjmhanhocoaaShaTurn
set_option linter.unusedVariables false
set_option linter.unusedSimpArgs false
namespace Go.Proofs.Ytclpjmhanhocoaa.ShaRef
open Go.RowKit Base Sha ShaRot ShaTab ShaRow ShaSpread ShaInv ShaTurn ShaApp ShaTail
set_option maxRecDepth 100000

def vT (l : List Nat) : List Value := l.map fun n : Nat => Value.int .u32 (n : Int)
theorem vT_snoc (l : List Nat) (n : Nat) : vT l ++ [.int .u32 (n : Int)] = vT (l ++ [n]) := by simp [vT]
theorem vT_at (l : List Nat) (i : Nat) (h : i < l.length) : (vT l)[i]? = some (.int .u32 ((l.getD i 0 : Nat) : Int)) := by
  simp [vT, List.getD_eq_getElem?_getD, List.getElem?_eq_getElem h]
theorem own_slice {w : World} {B : Nat} {v : Value} {n : Nat} {xs : List Value} (h : w.ownsRow B 103 1 v n xs) (hn : 0 < n) : ∃ g cap, v = .slice (some ⟨g, 0, none⟩) n cap ∧ B ≤ g ∧ g < w.heap.size := by
  rcases h.2 with ⟨_, h0⟩ | ⟨g, cap, cur, rfl, hb, hg, _⟩
  · omega
  · exact ⟨g, cap, rfl, hb, lt_of_block hg⟩
theorem own_ge {w : World} {B : Nat} {v : Value} {n : Nat} {xs : List Value} (h : w.ownsRow B 103 1 v n xs) : ∀ k, v.ownBlock = some k → B ≤ k := fun k hk => (h.lt k hk).1
theorem own_drewN {w : World} {B : Nat} {v : Value} {n : Nat} {xs : List Value} (h : w.ownsRow B 103 1 v n xs) (m : Nat) : (w.drewN m).ownsRow B 103 1 v n xs := by
  rcases h with ⟨h1, h2⟩
  refine ⟨h1, ?_⟩
  simpa [drewN_heap] using h2
def P1 (b : ByteArray) (w wr : World) (v : Value) (t : Nat) : Prop := wr.ownsRow w.heap.size 103 1 v t (vT (sched b.data.toList t)) ∧ Below w.heap.size w wr
def F (b : ByteArray) (w wr : World) (gs gk gw cap : Nat) (V : Array Value) : Prop := Row wr gs V 103 ∧ Row wr gk KV 103 ∧ wr.ownsRow w.heap.size 103 1 (.slice (some ⟨gw, 0, none⟩) 64 cap) 64 (vT (sched b.data.toList 64)) ∧ Below w.heap.size w wr
theorem F.drewN {b : ByteArray} {w wr : World} {gs gk gw cap : Nat} {V : Array Value} (h : F b w wr gs gk gw cap V) (n : Nat) : F b w (wr.drewN n) gs gk gw cap V := ⟨h.1.drewN n, h.2.1.drewN n, own_drewN h.2.2.1 n, belowDrewN h.2.2.2 n⟩
theorem F.wAt {b : ByteArray} {w wr : World} {gs gk gw cap : Nat} {V : Array Value} (h : F b w wr gs gk gw cap V) (i : Nat) (hi : i < 64) : wr.cell? ⟨gw, i, none⟩ = some (.int .u32 (((sched b.data.toList 64).getD i 0 : Nat) : Int)) := (h.2.2.1.cellAt i (by omega)).trans (vT_at _ i (by rw [sched_length]; exact hi))
/-- eight values are a state's -/
def Is (p : St) (a b c d e f g h : Value) : Prop := a = .int .u32 (p.a : Int) ∧ b = .int .u32 (p.b : Int) ∧ c = .int .u32 (p.c : Int) ∧ d = .int .u32 (p.d : Int) ∧ e = .int .u32 (p.e : Int) ∧ f = .int .u32 (p.f : Int) ∧ g = .int .u32 (p.g : Int) ∧ h = .int .u32 (p.h : Int)
theorem and1 {a b : Nat} (ha : a < 4294967296) (hb : b < 4294967296) : ∃ R : Nat, bits .and .u32 (a : Int) (b : Int) = (R : Int) ∧ R = a &&& b ∧ R < 4294967296 := ⟨_, u32_and_nat a b ha hb, rfl, and_lt ha⟩
theorem xor1 {a b : Nat} (ha : a < 4294967296) (hb : b < 4294967296) : ∃ R : Nat, bits .xor .u32 (a : Int) (b : Int) = (R : Int) ∧ R = a ^^^ b ∧ R < 4294967296 := ⟨_, u32_xor_nat a b ha hb, rfl, xor_lt ha hb⟩
set_option maxHeartbeats 4000000 in
theorem refTurn (s : St) (b : ByteArray) (hb : b.size = 64) (hs : s.ok) (w : World) (gs c : Nat) (hgs : Row w gs (vals s) 103) : Calls Try.prog 70 #[.slice (some ⟨gs, 0, none⟩) 8 c, .string b] w fun e w' => ∃ g, e = .returned (.slice (some ⟨g, 0, none⟩) 8 8) ∧ Row w' g (vals (turn s b.data.toList)) 103 ∧ Below w.heap.size w w' := by
  have HB := Lib.hid hb
  have HS := Lib.hid hs
  have HGS := Lib.hid hgs
  obtain ⟨i0, hi, hz0, hz1, hz2⟩ := info_parts (show (Try.prog.info? 103).map (fun i => (i.zero, i.size, i.bytes)) = some (some (.int .u32 0), 1, 4) by kernel_rfl)
  have HI := Lib.hid hi
  have HZ0 := Lib.hid hz0
  have HZ1 := Lib.hid hz1
  have HZ2 := Lib.hid hz2
  clear hb hs hgs hi hz0 hz1 hz2
  go_enter Try.func70, Try.ntmps70
  go_wp2_with fail
  go_loopw [5, 6] (fun v i wr => ∃ t : Nat, t ≤ 64 ∧ i = .int .i64 t ∧ P1 b w wr v t) (fun _ i _ => 64 - (intOf i).toNat)
  case atStart => exact ⟨0, by omega, rfl, World.ownsRow_nil w w.heap.size 103 1, Below.refl _ _⟩
  case round =>
    obtain ⟨t, ht, rfl, hr, hb⟩ := hrel
    have HR := Lib.hid hr
    have HL := Lib.hid hb
    clear hr hb
    by_cases hlt : t < 64
    · have d1 : decide ((t : Int) < 64) = true := by simp; omega
      by_cases h16 : t < 16
      · have d2 : decide ((t : Int) < 16) = true := by simp; omega
        have e0 : IntKind.i64.wrap (4 * (t : Int)) = 4 * (t : Int) := IntWalk.i64_in _ (by omega)
        have e1 : IntKind.i64.wrap (4 * (t : Int) + 1) = 4 * (t : Int) + 1 := IntWalk.i64_in _ (by omega)
        have e2 : IntKind.i64.wrap (4 * (t : Int) + 2) = 4 * (t : Int) + 2 := IntWalk.i64_in _ (by omega)
        have e3 : IntKind.i64.wrap (4 * (t : Int) + 3) = 4 * (t : Int) + 3 := IntWalk.i64_in _ (by omega)
        have x0 := idx (s := b) (i := 4 * (t : Int)) (j := 4 * t) (by omega) (by rw [HB.out]; omega)
        have x1 := idx (s := b) (i := 4 * (t : Int) + 1) (j := 4 * t + 1) (by omega) (by rw [HB.out]; omega)
        have x2 := idx (s := b) (i := 4 * (t : Int) + 2) (j := 4 * t + 2) (by omega) (by rw [HB.out]; omega)
        have x3 := idx (s := b) (i := 4 * (t : Int) + 3) (j := 4 * t + 3) (by omega) (by rw [HB.out]; omega)
        have b0 := by4_lt b.data.toList (4 * t)
        have b1 := by4_lt b.data.toList (4 * t + 1)
        have b2 := by4_lt b.data.toList (4 * t + 2)
        have b3 := by4_lt b.data.toList (4 * t + 3)
        have hw : word b.data.toList t = by4 b.data.toList (4 * t) * 16777216 + by4 b.data.toList (4 * t + 1) * 65536 + by4 b.data.toList (4 * t + 2) * 256 + by4 b.data.toList (4 * t + 3) := rfl
        have HW := Lib.hid hw
        clear hw
        generalize by4 b.data.toList (4 * t) = c0 at *
        generalize by4 b.data.toList (4 * t + 1) = c1 at *
        generalize by4 b.data.toList (4 * t + 2) = c2 at *
        generalize by4 b.data.toList (4 * t + 3) = c3 at *
        obtain ⟨M0, hM0⟩ : ∃ M, M = c0 * 16777216 := ⟨_, rfl⟩
        obtain ⟨M1, hM1⟩ : ∃ M, M = c1 * 65536 := ⟨_, rfl⟩
        obtain ⟨M2, hM2⟩ : ∃ M, M = c2 * 256 := ⟨_, rfl⟩
        obtain ⟨A1, hA1⟩ : ∃ M, M = M0 + M1 := ⟨_, rfl⟩
        obtain ⟨A2, hA2⟩ : ∃ M, M = A1 + M2 := ⟨_, rfl⟩
        obtain ⟨A3, hA3⟩ : ∃ M, M = A2 + c3 := ⟨_, rfl⟩
        have k0 : IntKind.u32.wrap (c0 : Int) = (c0 : Int) := u32_in _ (by omega) (by omega)
        have k1 : IntKind.u32.wrap (c1 : Int) = (c1 : Int) := u32_in _ (by omega) (by omega)
        have k2 : IntKind.u32.wrap (c2 : Int) = (c2 : Int) := u32_in _ (by omega) (by omega)
        have k3 : IntKind.u32.wrap (c3 : Int) = (c3 : Int) := u32_in _ (by omega) (by omega)
        have m0 : IntKind.u32.wrap ((c0 : Int) * 16777216) = (M0 : Int) := by rw [u32_in _ (by omega) (by omega)]; omega
        have m1 : IntKind.u32.wrap ((c1 : Int) * 65536) = (M1 : Int) := by rw [u32_in _ (by omega) (by omega)]; omega
        have m2 : IntKind.u32.wrap ((c2 : Int) * 256) = (M2 : Int) := by rw [u32_in _ (by omega) (by omega)]; omega
        have a1 : IntKind.u32.wrap ((M0 : Int) + (M1 : Int)) = (A1 : Int) := by rw [u32_in _ (by omega) (by omega)]; omega
        have a2 : IntKind.u32.wrap ((A1 : Int) + (M2 : Int)) = (A2 : Int) := by rw [u32_in _ (by omega) (by omega)]; omega
        have a3 : IntKind.u32.wrap ((A2 : Int) + (c3 : Int)) = (A3 : Int) := by rw [u32_in _ (by omega) (by omega)]; omega
        have hwd : A3 = newW b.data.toList (sched b.data.toList t) t := by rw [newW, if_pos h16, HW.out]; omega
        have HWD := Lib.hid hwd
        clear hwd hM0 hM1 hM2 hA1 hA2 hA3
        go_wp2_with fail
        refine wp_region_quiet_tail1 29 (by kernel_rfl) (by kernel_rfl) (fun _ _ _ h => h) (Or.inl ⟨by rfl, fun _ => by rfl⟩) ?_
        simp only [List.take_succ_cons, List.take_zero, List.drop_succ_cons, List.drop_zero]
        repeat (quiet_step (fail))
        refine wpQuiet_nil ?_
        intro _ hw'
        obtain ⟨nq, hw''⟩ := hw'
        subst hw''
        have HR2 := Lib.hid (own_drewN HR.out nq)
        have HL2 := Lib.hid (belowDrewN HL.out nq)
        clear HR HL k0 k1 k2 k3 m0 m1 m2 a1 a2 a3 x0 x1 x2 x3 e0 e1 e2 e3
        generalize wr.drewN nq = w2 at *
        go_wp2_with (at_builtin; go_must (refine wpList_append_one _ rfl (.tmp 27) (.tmp 57) 107 rfl w.heap.size 103 i0 (.int .u32 0) 4 Try.underlying107 HI.out HZ0.out HZ1.out HZ2.out rfl (.int .u32 (A3 : Int)) rfl _ t _ rfl HR2.out rfl (by unfold maxLen; omega) (by omega) HL2.out.size ?_); intro v' w1 hown' hgrow _)
        go_roundw
        case rel =>
          refine ⟨t + 1, by omega, by go_num, ?_, (HL2.out.alloc HL2.out.size _).grown hgrow (by have := HL2.out.size; simp; omega) (own_ge HR2.out)⟩
          rw [vT_snoc, HWD.out] at hown'
          exact hown'
        case measure => simp [intOf]; omega
      · have d2 : decide ((t : Int) < 16) = false := by simp; omega
        obtain ⟨g, cap, rfl, hg1, hg2⟩ := own_slice HR.out (by omega)
        have e15 : IntKind.i64.wrap ((t : Int) - 15) = ((t - 15 : Nat) : Int) := by rw [IntWalk.i64_in _ (by omega)]; omega
        have e2 : IntKind.i64.wrap ((t : Int) - 2) = ((t - 2 : Nat) : Int) := by rw [IntWalk.i64_in _ (by omega)]; omega
        have e16 : IntKind.i64.wrap ((t : Int) - 16) = ((t - 16 : Nat) : Int) := by rw [IntWalk.i64_in _ (by omega)]; omega
        have e7 : IntKind.i64.wrap ((t : Int) - 7) = ((t - 7 : Nat) : Int) := by rw [IntWalk.i64_in _ (by omega)]; omega
        have l15 : ((t - 15 : Nat) : Int) < (t : Int) := by omega
        have l2 : ((t - 2 : Nat) : Int) < (t : Int) := by omega
        have l16 : ((t - 16 : Nat) : Int) < (t : Int) := by omega
        have l7 : ((t - 7 : Nat) : Int) < (t : Int) := by omega
        have hlen := sched_length b.data.toList t
        have hall := sched_lt b.data.toList t
        obtain ⟨X, hX⟩ : ∃ X, X = (sched b.data.toList t).getD (t - 15) 0 := ⟨_, rfl⟩
        obtain ⟨Y, hY⟩ : ∃ X, X = (sched b.data.toList t).getD (t - 2) 0 := ⟨_, rfl⟩
        obtain ⟨U, hU⟩ : ∃ X, X = (sched b.data.toList t).getD (t - 16) 0 := ⟨_, rfl⟩
        obtain ⟨V, hV⟩ : ∃ X, X = (sched b.data.toList t).getD (t - 7) 0 := ⟨_, rfl⟩
        have bX : X < 4294967296 := by rw [hX]; exact getD_lt hall _
        have bY : Y < 4294967296 := by rw [hY]; exact getD_lt hall _
        have bU : U < 4294967296 := by rw [hU]; exact getD_lt hall _
        have bV : V < 4294967296 := by rw [hV]; exact getD_lt hall _
        have hnew : newW b.data.toList (sched b.data.toList t) t = (U + V + s0 X + s1 Y) % 4294967296 := by
          rw [newW, if_neg h16, nextW, ← hX, ← hY, ← hU, ← hV]
        have HNEW := Lib.hid hnew
        have c15 := (HR.out.cellAt (t - 15) (by omega)).trans (vT_at _ (t - 15) (by omega))
        have c2 := (HR.out.cellAt (t - 2) (by omega)).trans (vT_at _ (t - 2) (by omega))
        have c16 := (HR.out.cellAt (t - 16) (by omega)).trans (vT_at _ (t - 16) (by omega))
        have c7 := (HR.out.cellAt (t - 7) (by omega)).trans (vT_at _ (t - 7) (by omega))
        rw [← hX] at c15
        rw [← hY] at c2
        rw [← hU] at c16
        rw [← hV] at c7
        clear hX hY hU hV hnew hall hlen
        obtain ⟨X3, hX3⟩ : ∃ Z, Z = X / 8 := ⟨_, rfl⟩
        obtain ⟨Y10, hY10⟩ : ∃ Z, Z = Y / 1024 := ⟨_, rfl⟩
        have bX3 : X3 < 4294967296 := by omega
        have bY10 : Y10 < 4294967296 := by omega
        have q1 : (X : Int) / 8 = (X3 : Int) := by omega
        have q2 : (Y : Int) / 1024 = (Y10 : Int) := by omega
        have q3 : Int.tdiv (X : Int) 8 = (X3 : Int) := by rw [Int.tdiv_eq_ediv_of_nonneg (by omega)]; exact q1
        have q4 : Int.tdiv (Y : Int) 1024 = (Y10 : Int) := by rw [Int.tdiv_eq_ediv_of_nonneg (by omega)]; exact q2
        have q5 : IntKind.u32.wrap (X3 : Int) = (X3 : Int) := u32_in _ (by omega) (by omega)
        have q6 : IntKind.u32.wrap (Y10 : Int) = (Y10 : Int) := u32_in _ (by omega) (by omega)
        obtain ⟨R1, S0, f1, f2, hS0, _, bS0⟩ := xor3 (rotr_lt bX (n := 7) (by omega) (by omega)) (rotr_lt bX (n := 18) (by omega) (by omega)) (c := X3) bX3 (z := (X3 : Int)) rfl
        obtain ⟨R2, S1, f3, f4, hS1, _, bS1⟩ := xor3 (rotr_lt bY (n := 17) (by omega) (by omega)) (rotr_lt bY (n := 19) (by omega) (by omega)) (c := Y10) bY10 (z := (Y10 : Int)) rfl
        obtain ⟨A1, a1, hA1, _⟩ := add2 S1 V
        obtain ⟨A2, a2, hA2, _⟩ := add2 A1 S0
        obtain ⟨A3, a3, hA3, _⟩ := add2 A2 U
        have hA : A3 = newW b.data.toList (sched b.data.toList t) t := by
          rw [HNEW.out, hA3, hA2, hA1, hS0, hS1, s0, s1, hX3, hY10]
          omega
        have HA := Lib.hid hA
        clear hA hA1 hA2 hA3 hS0 hS1 hX3 hY10
        go_wp2_with fail
        refine wp_region_quiet_tail1 29 (by kernel_rfl) (by kernel_rfl) (fun _ _ _ h => h) (Or.inl ⟨by rfl, fun _ => by rfl⟩) ?_
        simp only [List.take_succ_cons, List.take_zero, List.drop_succ_cons, List.drop_zero]
        repeat (quiet_step (first | (go_at_call_of 79 (Value.int IntKind.i64 17); exact Calls.quiet_of (turned Y 17 bY (by omega) (by omega) _)) | (go_at_call_of 79 (Value.int IntKind.i64 19); exact Calls.quiet_of (turned Y 19 bY (by omega) (by omega) _)) | (go_at_call_of 79 (Value.int IntKind.i64 7); exact Calls.quiet_of (turned X 7 bX (by omega) (by omega) _)) | (go_at_call_of 79 (Value.int IntKind.i64 18); exact Calls.quiet_of (turned X 18 bX (by omega) (by omega) _))))
        refine wpQuiet_nil ?_
        intro _ hw'
        obtain ⟨nq, hw''⟩ := hw'
        subst hw''
        have HR2 := Lib.hid (own_drewN HR.out nq)
        have HL2 := Lib.hid (belowDrewN HL.out nq)
        clear HR HL c15 c2 c16 c7 f1 f2 f3 f4 a1 a2 a3 e15 e2 e16 e7 q1 q2 q3 q4 q5 q6
        generalize wr.drewN nq = w2 at *
        go_wp2_with (at_builtin; go_must (refine wpList_append_one _ rfl (.tmp 69) (.tmp 99) 107 rfl w.heap.size 103 i0 (.int .u32 0) 4 Try.underlying107 HI.out HZ0.out HZ1.out HZ2.out rfl (.int .u32 (A3 : Int)) rfl _ t _ rfl HR2.out rfl (by unfold maxLen; omega) (by omega) HL2.out.size ?_); intro v' w1 hown' hgrow _)
        go_roundw
        case rel =>
          refine ⟨t + 1, by omega, by go_num, ?_, (HL2.out.alloc HL2.out.size _).grown hgrow (by have := HL2.out.size; simp; omega) (own_ge HR2.out)⟩
          rw [vT_snoc, HA.out] at hown'
          exact hown'
        case measure => simp [intOf]; omega
    · obtain rfl : t = 64 := by omega
      obtain ⟨gw, cap, rfl, hg1, hg2⟩ := own_slice HR.out (by omega)
      obtain ⟨q0, q1, q2, q3, q4, q5, q6, q7⟩ := s
      have hG := HGS.out.below' HL.out HGS.out.lt
      have HG := Lib.hid hG
      clear hG
      simp only [Int.cast_ofNat_Int] at *
      go_wp2_with (go_at_call 80; refine (constants _).mono ?_; rintro e w9 ⟨rfl, rfl⟩)
      have hF : F b w (wr.alloc (.cells KV 103)) gs wr.heap.size gw cap (vals ⟨q0, q1, q2, q3, q4, q5, q6, q7⟩) := ⟨HG.out.alloc _, Row.new wr KV 103, HR.out.alloc _, HL.out.alloc HL.out.size _⟩
      have HF := Lib.hid hF
      clear hF HR HL HG
      generalize wr.heap.size = gk at *
      generalize wr.alloc (.cells KV 103) = w1 at *
      have c0 := HF.out.1.cell 0 (v := .int .u32 (q0 : Int)) rfl
      have c1 := HF.out.1.cell 1 (v := .int .u32 (q1 : Int)) rfl
      have c2 := HF.out.1.cell 2 (v := .int .u32 (q2 : Int)) rfl
      have c3 := HF.out.1.cell 3 (v := .int .u32 (q3 : Int)) rfl
      go_quiet (fail)
      have HF1 := Lib.hid (HF.out.drewN nq)
      clear c0 c1 c2 c3 HF
      generalize w1.drewN nq = w2 at *
      have c4 := HF1.out.1.cell 4 (v := .int .u32 (q4 : Int)) rfl
      have c5 := HF1.out.1.cell 5 (v := .int .u32 (q5 : Int)) rfl
      have c6 := HF1.out.1.cell 6 (v := .int .u32 (q6 : Int)) rfl
      have c7 := HF1.out.1.cell 7 (v := .int .u32 (q7 : Int)) rfl
      go_wp2_with fail
      go_quiet (fail)
      have HF2 := Lib.hid (HF1.out.drewN nq)
      clear c4 c5 c6 c7 HF1
      generalize w2.drewN nq = w3 at *
      go_wp2_with fail
      go_loopw [10, 11, 12, 13, 14, 15, 16, 17, 18] (fun xa xb xc xd xe xf xg xh i wr => ∃ (t : Nat) (p : St), t ≤ 64 ∧ i = .int .i64 t ∧ p = rnds ⟨q0, q1, q2, q3, q4, q5, q6, q7⟩ b.data.toList t ∧ Is p xa xb xc xd xe xf xg xh ∧ F b w wr gs gk gw cap (vals ⟨q0, q1, q2, q3, q4, q5, q6, q7⟩)) (fun _ _ _ _ _ _ _ _ i _ => 64 - (intOf i).toNat)
      case atStart => exact ⟨0, _, by omega, rfl, rfl, ⟨rfl, rfl, rfl, rfl, rfl, rfl, rfl, rfl⟩, HF2.out⟩
      case round =>
        clear HF2
        obtain ⟨t, ⟨p0, p1, p2, p3, p4, p5, p6, p7⟩, ht, rfl, hp, ⟨rfl, rfl, rfl, rfl, rfl, rfl, rfl, rfl⟩, hF⟩ := hrel
        have HF := Lib.hid hF
        have HP := Lib.hid hp
        clear hF hp
        by_cases hlt : t < 64
        · have hok := rnds_ok HS.out b.data.toList t
          rw [← HP.out] at hok
          obtain ⟨b0, b1, b2, b3, b4, b5, b6, b7⟩ := hok
          simp only at b0 b1 b2 b3 b4 b5 b6 b7
          have d1 : decide ((t : Int) < 64) = true := by simp; omega
          have tI : (t : Int) < 64 := by omega
          have hnext : rnds ⟨q0, q1, q2, q3, q4, q5, q6, q7⟩ b.data.toList (t + 1) = rnd ⟨p0, p1, p2, p3, p4, p5, p6, p7⟩ (kAt t) ((sched b.data.toList 64).getD t 0) := by rw [HP.out]; rfl
          have HN := Lib.hid hnext
          clear hnext
          have ck := HF.out.2.1.cell t (KV_at t hlt)
          have cw := HF.out.wAt t hlt
          have bK := kAt_lt t
          have bW := getD_lt (sched_lt b.data.toList 64) t
          generalize kAt t = K at *
          generalize (sched b.data.toList 64).getD t 0 = W at *
          obtain ⟨NE, hNE⟩ : ∃ N, N = 4294967295 - p4 := ⟨_, rfl⟩
          have s1 : IntKind.u32.wrap (4294967295 - (p4 : Int)) = (NE : Int) := by rw [u32_in _ (by omega) (by omega)]; omega
          have bNE : NE < 4294967296 := by omega
          obtain ⟨R1, Z1, f1, f2, hZ1, _, bZ1⟩ := xor3 (rotr_lt b4 (n := 6) (by omega) (by omega)) (rotr_lt b4 (n := 11) (by omega) (by omega)) (rotr_lt b4 (n := 25) (by omega) (by omega)) (z := ((rotr p4 25 : Nat) : Int)) rfl
          obtain ⟨N1, g1, hN1, bN1⟩ := and1 b4 b5
          obtain ⟨N2, g2, hN2, bN2⟩ := and1 bNE b6
          obtain ⟨CH, g3, hCH, bCH⟩ := xor1 bN1 bN2
          obtain ⟨A1, a1, hA1, _⟩ := add2 p7 Z1
          obtain ⟨A2, a2, hA2, _⟩ := add2 A1 CH
          obtain ⟨A3, a3, hA3, _⟩ := add2 A2 K
          obtain ⟨A4, a4, hA4, bA4⟩ := add2 A3 W
          have hone : A4 = one ⟨p0, p1, p2, p3, p4, p5, p6, p7⟩ K W := by
            unfold one S1 ch
            simp only
            rw [← hNE, ← hN1, ← hN2, ← hCH, ← hZ1]
            omega
          have HO1 := Lib.hid hone
          clear hone hA1 hA2 hA3 hA4 hCH hN1 hN2 hZ1 hNE
          go_wp2_with fail
          go_quiet (first | (go_at_call_of 79 (Value.int IntKind.i64 6); exact Calls.quiet_of (turned p4 6 b4 (by omega) (by omega) _)) | (go_at_call_of 79 (Value.int IntKind.i64 11); exact Calls.quiet_of (turned p4 11 b4 (by omega) (by omega) _)) | (go_at_call_of 79 (Value.int IntKind.i64 25); exact Calls.quiet_of (turned p4 25 b4 (by omega) (by omega) _)))
          have HF3 := Lib.hid (HF.out.drewN nq)
          clear HF ck cw s1 f1 f2 g1 g2 g3 a1 a2 a3 a4
          generalize wr.drewN nq = w4 at *
          obtain ⟨R2, Z0, f1, f2, hZ0, _, bZ0⟩ := xor3 (rotr_lt b0 (n := 2) (by omega) (by omega)) (rotr_lt b0 (n := 13) (by omega) (by omega)) (rotr_lt b0 (n := 22) (by omega) (by omega)) (z := ((rotr p0 22 : Nat) : Int)) rfl
          obtain ⟨B1, g1, hB1, bB1⟩ := and1 b0 b1
          obtain ⟨B2, g2, hB2, bB2⟩ := and1 b0 b2
          obtain ⟨B3, g3, hB3, bB3⟩ := and1 b1 b2
          obtain ⟨X1, g4, hX1, bX1⟩ := xor1 bB1 bB2
          obtain ⟨MJ, g5, hMJ, bMJ⟩ := xor1 bX1 bB3
          obtain ⟨TW, a1, hTW, _⟩ := add2 Z0 MJ
          have htwo : TW = two ⟨p0, p1, p2, p3, p4, p5, p6, p7⟩ := by
            unfold two S0 maj
            simp only
            rw [← hB1, ← hB2, ← hB3, ← hX1, ← hMJ, ← hZ0]
            omega
          obtain ⟨D, a2, hD, _⟩ := add2 p3 A4
          obtain ⟨E, a3, hE, _⟩ := add2 A4 TW
          have hfin : rnds ⟨q0, q1, q2, q3, q4, q5, q6, q7⟩ b.data.toList (t + 1) = ⟨E, p0, p1, p2, D, p4, p5, p6⟩ := by
            rw [HN.out, rnd, ← HO1.out, ← htwo, hE, hD]
          have HFIN := Lib.hid hfin
          clear hfin htwo hD hE hTW hMJ hX1 hB1 hB2 hB3 hZ0
          go_wp2_with (first | (go_at_call_of 79 (Value.int IntKind.i64 2); refine (turned p0 2 b0 (by omega) (by omega) _).mono ?_; rintro e w9 ⟨rfl, m1, rfl⟩) | (go_at_call_of 79 (Value.int IntKind.i64 13); refine (turned p0 13 b0 (by omega) (by omega) _).mono ?_; rintro e w9 ⟨rfl, m2, rfl⟩) | (go_at_call_of 79 (Value.int IntKind.i64 22); refine (turned p0 22 b0 (by omega) (by omega) _).mono ?_; rintro e w9 ⟨rfl, m3, rfl⟩))
          go_roundw
          case rel =>
            exact ⟨t + 1, ⟨E, p0, p1, p2, D, p4, p5, p6⟩, by omega, by go_num, HFIN.out.symm, ⟨rfl, rfl, rfl, rfl, rfl, rfl, rfl, rfl⟩, HF3.out.drewN _⟩
          case measure => simp [intOf]; omega
        · obtain rfl : t = 64 := by omega
          obtain ⟨r0, a0, h0, _⟩ := add2 q0 p0
          obtain ⟨r1, a1, h1, _⟩ := add2 q1 p1
          obtain ⟨r2, a2, h2, _⟩ := add2 q2 p2
          obtain ⟨r3, a3, h3, _⟩ := add2 q3 p3
          obtain ⟨r4, a4, h4, _⟩ := add2 q4 p4
          obtain ⟨r5, a5, h5, _⟩ := add2 q5 p5
          obtain ⟨r6, a6, h6, _⟩ := add2 q6 p6
          obtain ⟨r7, a7, h7, _⟩ := add2 q7 p7
          have hT : vals (turn ⟨q0, q1, q2, q3, q4, q5, q6, q7⟩ b.data.toList) = vals ⟨r0, r1, r2, r3, r4, r5, r6, r7⟩ := by
            rw [Sha.turn, ← HP.out, add, h0, h1, h2, h3, h4, h5, h6, h7]
          have HT := Lib.hid hT
          clear hT h0 h1 h2 h3 h4 h5 h6 h7 HP
          have c0 := HF.out.1.cell 0 (v := .int .u32 (q0 : Int)) rfl
          have c1 := HF.out.1.cell 1 (v := .int .u32 (q1 : Int)) rfl
          have c2 := HF.out.1.cell 2 (v := .int .u32 (q2 : Int)) rfl
          have c3 := HF.out.1.cell 3 (v := .int .u32 (q3 : Int)) rfl
          have c4 := HF.out.1.cell 4 (v := .int .u32 (q4 : Int)) rfl
          have c5 := HF.out.1.cell 5 (v := .int .u32 (q5 : Int)) rfl
          have c6 := HF.out.1.cell 6 (v := .int .u32 (q6 : Int)) rfl
          have c7 := HF.out.1.cell 7 (v := .int .u32 (q7 : Int)) rfl
          go_wp2_with fail
          refine wp_region_quiet_tail 40 (by kernel_rfl) (by kernel_rfl) ?_
          simp only [List.take_succ_cons, List.take_zero, List.drop_succ_cons, List.drop_zero]
          repeat (quiet_step (fail))
          refine wpQuiet_nil ?_
          intro _ hw'
          obtain ⟨nq, hw''⟩ := hw'
          subst hw''
          have HF5 := Lib.hid (HF.out.drewN nq)
          clear c0 c1 c2 c3 c4 c5 c6 c7 HF a0 a1 a2 a3 a4 a5 a6 a7
          generalize wr.drewN nq = w5 at *
          go_wp2
          go_ret
          rw [HT.out]
          exact ⟨_, rfl, Row.new _ _ _, HF5.out.2.2.2.alloc HF5.out.2.2.2.size _⟩
end Go.Proofs.Ytclpjmhanhocoaa.ShaRef
