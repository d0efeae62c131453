/- nonce.New, ledger.New and world.New at the plain config, and what they lay. Conditions: as stated in each theorem. -/
import Derived.Test.YtbodhkaohmfijaaScanSmall
import Derived.Test.YtbodhkaohmfijaaScanRules
set_option linter.unusedVariables false
set_option linter.unusedSimpArgs false
namespace Go.Proofs.Ytbodhkaohmfijaa.ScanWorld
open Go.RowKit Base ScanDir ScanRow ScanPlain ScanSmall ScanRules
set_option maxRecDepth 100000

/-- what a new ledger holds -/
def ledA (s : Int) (p q : Value) (g c : Nat) : Array Value := #[.int .i64 s, .int .i64 4, .int .u64 0, p, q, .slice (some ⟨g, 0, none⟩) 1 c, .slice none 0 0, .slice none 0 0]
def lineA (s : Int) (m0 m1 : Nat) : Array Value := #[.int .i64 0, .int .i64 s, .bool false, .bool false, .int .u64 1, .int .u64 1, .int .u64 1, .map (some m0), .map (some m1)]
structure Led (w : World) (B L : Nat) : Prop where
  is : ∃ s p q g c N m0 m1, Row w L (ledA s p q g c) 78 ∧ w.cell? ⟨g, 0, none⟩ = some (.pointer (some ⟨N, 0, none⟩)) ∧ Row w N (lineA s m0 m1) 89 ∧ w.heap[m0]? = some (.map #[] 0) ∧ B ≤ L ∧ B ≤ g ∧ B ≤ N ∧ B ≤ m0
theorem Led.below {w w' : World} {B L : Nat} (h : Led w B L) (hb : Below w.heap.size w w') : Led w' B L := by
  obtain ⟨s, p, q, g, c, N, m0, m1, h1, h2, h3, h4, h5⟩ := h.is
  have hg : g < w.heap.size := World.block_lt_of_cell? w _ h2
  have hm : m0 < w.heap.size := lt_of_block h4
  exact ⟨s, p, q, g, c, N, m0, m1, h1.below hb, (hb.cell (p := ⟨g, 0, none⟩) hg).trans h2, h3.below hb, (hb.block _ hm).trans h4, h5⟩
theorem Led.set {w : World} {B L : Nat} (h : Led w B L) {W : Nat} (hW : W < B) (i : Nat) (u : Value) : Led (w.setCell ⟨W, i, none⟩ u) B L := by
  obtain ⟨s, p, q, g, c, N, m0, m1, h1, h2, h3, h4, h5, h6, h7, h8⟩ := h.is
  exact ⟨s, p, q, g, c, N, m0, m1, h1.setOther (by omega) _ _, (World.cell?_of_block (w := w) (a := ⟨g, 0, none⟩) (Below.heap_setCell _ _ _ _ (by show g ≠ W; omega))).trans h2, h3.setOther (by omega) _ _, block_setCell_other h4 (by omega) _, h5, h6, h7, h8⟩
theorem Led.mono {w : World} {A B L : Nat} (h : Led w B L) (hA : A ≤ B) : Led w A L := by
  obtain ⟨s, p, q, g, c, N, m0, m1, h1, h2, h3, h4, h5, h6, h7, h8⟩ := h.is
  exact ⟨s, p, q, g, c, N, m0, m1, h1, h2, h3, h4, by omega, by omega, by omega, by omega⟩
theorem eql_nil (a : Addr) (l c : Nat) (w : World) : (binOp .eql 71 (.slice (some a) l c) (.slice none 0 0)).run Try.prog w = .ok (.bool false) w := by
  simp only [binOp]
  simp [run_equal_slice_nil w 71 22 (some a) l c Try.underlying71]
theorem clone (g : Nat) (w : World) (h0 : w.cell? ⟨g, 0, none⟩ = some (.int .u64 0)) (h1 : w.cell? ⟨g, 1, none⟩ = some (.int .u64 0)) (c : Nat) : Calls Try.prog 29 #[.slice (some ⟨g, 0, none⟩) 2 c] w fun e w' => (∃ a m k, e = .returned (.slice a m k)) ∧ Below w.heap.size w w' := by
  obtain ⟨i0, hi, hz0, hz1, hz2⟩ := info_parts (show (Try.prog.info? 22).map (fun i => (i.zero, i.size, i.bytes)) = some (some (.int .u64 0), 1, 8) by kernel_rfl)
  have hown0 := World.ownsRow_lit (e := 22) (size := 1) (base := w.heap.size) w #[] 0 (Nat.le_refl _) (by unfold maxLen; omega) rfl
  have hb0 : Below w.heap.size w (w.alloc (.cells #[] 22)) := (Below.refl _ w).alloc (Nat.le_refl _) _
  have hcells : ∀ j u, [Value.int .u64 0, .int .u64 0][j]? = some u → (w.alloc (.cells #[] 22)).cell? ((⟨g, 0, none⟩ : Addr).add j) = some u := by
    intro j u hu
    have hg : g < w.heap.size := World.block_lt_of_cell? w _ h0
    match j, hu with
    | 0, hu => simp at hu; subst hu; simpa [Addr.add] using (hb0.cell (p := ⟨g, 0, none⟩) hg).trans h0
    | 1, hu => simp at hu; subst hu; simpa [Addr.add] using (hb0.cell (p := ⟨g, 1, none⟩) hg).trans h1
  have hone : ∀ u ∈ [Value.int .u64 0, .int .u64 0], u.oneCell' = true := by
    intro u hu
    simp at hu
    rw [hu]
    rfl
  have heq := fun w => eql_nil ⟨g, 0, none⟩ 2 c w
  have HC := Lib.hid hcells
  have HO := Lib.hid hone
  have HI := Lib.hid hi
  have HZ0 := Lib.hid hz0
  have HZ1 := Lib.hid hz1
  have HZ2 := Lib.hid hz2
  clear hcells hone h0 h1 hi hz0 hz1 hz2
  go_enter Try.func29, Try.ntmps29
  go_wp2_with (at_builtin; go_must (refine wpList_append_own _ rfl (.tmp 5) (.tmp 6) 71 rfl w.heap.size 22 i0 (.int .u64 0) 1 8 Try.underlying71 HI.out HZ0.out HZ1.out HZ2.out rfl (by decide) _ _ _ rfl hown0 ⟨g, 0, none⟩ 2 c [.int .u64 0, .int .u64 0] rfl rfl HC.out HO.out (by unfold maxLen; omega) (by omega) (by simp) ?_); intro v3 w3 ho3 hg3 hw3)
  go_ret
  have hb3 := hb0.grown hg3 (by simp) (fun k hk => (hown0.lt k hk).1)
  rcases ho3.2 with ⟨h1, _⟩ | ⟨g, cap, cur, h1, _⟩
  · subst h1
    exact ⟨⟨_, _, _, rfl⟩, hb3⟩
  · subst h1
    exact ⟨⟨_, _, _, rfl⟩, hb3⟩
theorem nonceNew (g : Nat) (w : World) (h0 : w.cell? ⟨g, 0, none⟩ = some (.int .u64 0)) (h1 : w.cell? ⟨g, 1, none⟩ = some (.int .u64 0)) (c : Nat) : Calls Try.prog 23 #[.slice (some ⟨g, 0, none⟩) 2 c] w fun e w' => ∃ b, e = .returned (.tuple #[.pointer (some ⟨b, 0, none⟩), .int .i64 0]) ∧ Below w.heap.size w w' := by
  go_enter Try.func23, Try.ntmps23
  go_wp2_with (go_at_call 29; refine (clone _ _ h0 h1 _).mono ?_; rintro e w1 ⟨⟨a1, m1, k1, rfl⟩, hb1⟩)
  go_ret2
  exact ⟨_, rfl, hb1.alloc hb1.size _⟩

theorem poolNew' (w : World) : Calls Try.prog 24 #[.int .i64 8] w fun e w' => ∃ b, e = .returned (.tuple #[.pointer (some ⟨b, 0, none⟩), .int .i64 0]) ∧ Below w.heap.size w w' :=
  (poolNew w).mono fun _ _ ⟨h1, h2⟩ => ⟨_, h1, h2⟩
/-- what a new ledger holds at first, behind a word -/
def led0 (s : Int) (p q v : Value) : Array Value := #[.int .i64 s, .int .i64 4, .int .u64 0, p, q, v, .slice none 0 0, .slice none 0 0]
theorem lineNew' (s : Int) (hs : s = 0 ∨ s = 1) (w : World) : Calls Try.prog 25 #[.int .i64 0, .int .i64 s, .bool false] w fun e w' => ∃ N m0 m1, e = .returned (.tuple #[.pointer (some ⟨N, 0, none⟩), .int .i64 0]) ∧ Row w' N (lineA s m0 m1) 89 ∧ w'.heap[m0]? = some (.map #[] 0) ∧ Below w.heap.size w w' ∧ w.heap.size ≤ N ∧ w.heap.size ≤ m0 := by
  refine (lineNew s hs w).mono ?_
  rintro e w' ⟨rfl, rfl⟩
  refine ⟨_, w.heap.size, w.heap.size + 1, rfl, ?_, block_alloc (block_alloc (block_new _ _) _) _, (((Below.refl _ w).alloc (Nat.le_refl _) _).alloc (by simp) _).alloc (by simp; omega) _, by omega, by omega⟩
  have := Row.new ((w.alloc (.map #[] 0)).alloc (.map #[] 0)) (lineA s w.heap.size (w.heap.size + 1)) 89
  simpa [lineA] using this
set_option maxHeartbeats 4000000 in
theorem ledNew (s : Int) (hs : s = 0 ∨ s = 1) (g c : Nat) (w : World) (hg : w.cell? ⟨g, 0, none⟩ = some (.bool false)) : Calls Try.prog 13 #[.agg (cfg (.slice (some ⟨g, 0, none⟩) 1 c)), .int .i64 s] w fun e w' => ∃ L, e = .returned (.tuple #[.pointer (some ⟨L, 0, none⟩), .int .i64 0]) ∧ Led w' w.heap.size L ∧ Below w.heap.size w w' := by
  obtain ⟨i0, hi, hz0, hz1, hz2⟩ := info_parts (show (Try.prog.info? 63).map (fun i => (i.zero, i.size, i.bytes)) = some (some (.pointer none), 1, 8) by kernel_rfl)
  have HI := Lib.hid hi
  have HZ0 := Lib.hid hz0
  have HZ1 := Lib.hid hz1
  have HZ2 := Lib.hid hz2
  have hgl : g < w.heap.size := World.block_lt_of_cell? w _ hg
  have HG := Lib.hid hg
  have HS := Lib.hid hs
  clear hi hz0 hz1 hz2 hg
  have hmk : ∀ w, (Instr.makeSlice 71 (.int .i64 2) (.int .i64 2)).run Try.prog w = .ok (.slice (some ⟨w.heap.size, 0, none⟩) 2 2) (w.alloc (.cells #[.int .u64 0, .int .u64 0] 22)) := fun _ => by kernel_rfl
  have RC := Lib.hid (Row.new w (cfg (.slice (some ⟨g, 0, none⟩) 1 c)) 35)
  have HB0 := Lib.hid ((Below.refl w.heap.size w).alloc (Nat.le_refl _) (.cells (cfg (.slice (some ⟨g, 0, none⟩) 1 c)) 35))
  rcases hs with rfl | rfl
  all_goals
    go_enter Try.func13, Try.ntmps13
    go_wp2_with (first | (go_at_call 22; refine (check _ _ _).mono ?_; rintro e w1 ⟨rfl, hb1⟩; have RC1 := Lib.hid (RC.out.below hb1); have HB1 := Lib.hid (HB0.out.trans (hb1.mono (by simp))); have HG1 := Lib.hid ((HB1.out.cell (p := ⟨g, 0, none⟩) hgl).trans HG.out); have c1 := RC1.out.cell 1 (v := .int .i64 1) rfl; have c4 := RC1.out.cell 4 (v := .int .i64 8) rfl; have c5 := RC1.out.cell 5 (v := .int .i64 4) rfl; have c11 := RC1.out.cell 11 (v := .int .u64 0) rfl; have hlt := RC1.out.lt; clear hb1) | (refine wpList_load_row rfl 35 _ rfl _ rfl 35 _ _ _ RC.out.is Try.underlying35 rfl (by kernel_rfl) ?_))
  · refine wp_loop_rounds 2 ?_
    rw [rounds_succ]
    go_wp2
    rw [rounds_succ]
    go_wp2_with fail
    have R1 := Row.new (w1.alloc (.cells #[.int .u64 0, .int .u64 0] 22)) (led0 0 (.pointer none) (.pointer none) (.slice none 0 0)) 78
    rw [World.size_alloc] at R1
    have RL := Lib.hid R1
    have RC2 := Lib.hid ((RC1.out.alloc (.cells #[.int .u64 0, .int .u64 0] 22)).alloc (.cells (led0 0 (.pointer none) (.pointer none) (.slice none 0 0)) 78))
    have HB2 := Lib.hid ((HB1.out.alloc HB1.out.size (.cells #[.int .u64 0, .int .u64 0] 22)).alloc (by have := HB1.out.size; simp; omega) (.cells (led0 0 (.pointer none) (.pointer none) (.slice none 0 0)) 78))
    have hLw : w.heap.size < w1.heap.size + 1 := by omega
    clear R1 RC1 HB1 HG1 c1 c4 c5 c11
    refine (nonceNew _ _ (by go_simp) (by go_simp) _).mono ?_
    rintro e w2 ⟨b1, rfl, hb2⟩
    have RL2 := Lib.hid (RL.out.below hb2)
    have RC3 := Lib.hid (RC2.out.below hb2)
    have HB3 := Lib.hid (HB2.out.trans (hb2.mono HB2.out.size))
    clear hb2 RL RC2 HB2
    generalize w1.heap.size + 1 = L at *
    have cl3 := RL2.out.cell 3 (v := .pointer none) rfl
    have fl3 := RL2.out.free 3
    have cc4 := RC3.out.cell 4 (v := .int .i64 8) rfl
    have hll := RL2.out.lt
    have hcc := RC3.out.lt
    have hne : ¬ w.heap.size = L := by omega
    go_wp2_with fail
    have RL4 := Lib.hid (RL2.out.set 3 (.pointer (some ⟨b1, 0, none⟩)))
    have RC4 := Lib.hid (RC3.out.setOther hne 3 (.pointer (some ⟨b1, 0, none⟩)))
    have HB4 := Lib.hid (belowSet HB3.out (by omega : w.heap.size ≤ L) 3 (.pointer (some ⟨b1, 0, none⟩)))
    clear cl3 fl3 cc4 hll hcc RL2 RC3 HB3
    refine (poolNew' _).mono ?_
    rintro e w3 ⟨b2, rfl, hb3⟩
    have RL5 := Lib.hid (RL4.out.below hb3)
    have RC5 := Lib.hid (RC4.out.below hb3)
    have HB5 := Lib.hid (HB4.out.trans (hb3.mono HB4.out.size))
    clear hb3 RL4 RC4 HB4
    have cl4 := RL5.out.cell 4 (v := .pointer none) rfl
    have fl4 := RL5.out.free 4
    have cc0 := RC5.out.cell 0 (v := .slice (some ⟨g, 0, none⟩) 1 c) rfl
    have hll := RL5.out.lt
    have hcc := RC5.out.lt
    go_wp2_with fail
    have RL6 := Lib.hid (RL5.out.set 4 (.pointer (some ⟨b2, 0, none⟩)))
    have HB6 := Lib.hid (belowSet HB5.out (by omega : w.heap.size ≤ L) 4 (.pointer (some ⟨b2, 0, none⟩)))
    clear cl4 fl4 cc0 hll hcc RL5 RC5 HB5
    generalize w3.setCell _ _ = w4 at *
    have hg4 := (HB6.out.cell (p := ⟨g, 0, none⟩) hgl).trans HG.out
    refine wp_loop_rounds 2 ?_
    rw [rounds_succ]
    go_wp2_with fail
    refine (lineNew' 0 (by decide) _).mono ?_
    rintro e w5 ⟨N, m0, m1, rfl, rN, hm, hb5, hN4, hm4⟩
    have hL4 := RL6.out.lt
    have HB6s := HB6.out.size
    have HB6s := HB6.out.size
    have RN5 := Lib.hid rN
    have HM5 := Lib.hid hm
    have RL7 := Lib.hid (RL6.out.below hb5)
    have HB7 := Lib.hid (HB6.out.trans (hb5.mono HB6.out.size))
    clear hb5 rN hm RL6 HB6 hg4
    have cl5 := RL7.out.cell 5 (v := .slice none 0 0) rfl
    have fl5 := RL7.out.free 5
    have hll := RL7.out.lt
    go_wp2_with (at_builtin; go_must (refine wpList_append_one _ rfl (.tmp 87) (.tmp 89) 74 rfl w5.heap.size 63 i0 (.pointer none) 8 Try.underlying74 HI.out HZ0.out HZ1.out HZ2.out rfl (.pointer (some ⟨N, 0, none⟩)) rfl _ 0 _ rfl (World.ownsRow_nil _ _ _ _) rfl (by unfold maxLen; omega) (by omega) (Nat.le_refl _) ?_); intro v' w6 hown' hgrow _; obtain ⟨gl, cl, rfl, hg1, hg2⟩ := own_slice hown' (by omega); have hbw := ((Below.refl _ _).alloc (Nat.le_refl w5.heap.size) (.cells #[.pointer (some ⟨N, 0, none⟩)] 63)).grown hgrow (by simp) (fun j hj => by cases hj); have RN6 := Lib.hid (RN5.out.below hbw); have RL8 := Lib.hid (RL7.out.below hbw); have HM6 := Lib.hid ((hbw.block _ (lt_of_block HM5.out)).trans HM5.out); have HB8 := Lib.hid (HB7.out.trans (hbw.mono HB7.out.size)); have HO := Lib.hid (hown'.cellAt 0 (by omega)); have ql5 := RL8.out.cell 5 (v := .slice none 0 0) rfl; have gl5 := RL8.out.free 5; clear hbw hown' hgrow)
    rw [rounds_succ]
    go_wp2
    go_ret2
    refine ⟨L, rfl, ⟨0, .pointer (some ⟨b1, 0, none⟩), .pointer (some ⟨b2, 0, none⟩), gl, cl, N, m0, m1, ⟨(RL8.out.set 5 _).is⟩, ?_, RN6.out.setOther (by omega) _ _, block_setCell_other HM6.out (by omega) _, by omega, by have := HB7.out.size; omega, by have := HB7.out.size; have := HB6s; omega, by have := HB6s; omega⟩, belowSet HB8.out (by omega) _ _⟩
    exact (World.cell?_of_block (w := w6) (a := ⟨gl, 0, none⟩) (Below.heap_setCell _ _ _ _ (by show gl ≠ L; omega))).trans HO.out
  · refine wp_loop_rounds 2 ?_
    rw [rounds_succ]
    go_wp2
    rw [rounds_succ]
    go_wp2_with fail
    have R1 := Row.new (w1.alloc (.cells #[.int .u64 0, .int .u64 0] 22)) (led0 1 (.pointer none) (.pointer none) (.slice none 0 0)) 78
    rw [World.size_alloc] at R1
    have RL := Lib.hid R1
    have RC2 := Lib.hid ((RC1.out.alloc (.cells #[.int .u64 0, .int .u64 0] 22)).alloc (.cells (led0 1 (.pointer none) (.pointer none) (.slice none 0 0)) 78))
    have HB2 := Lib.hid ((HB1.out.alloc HB1.out.size (.cells #[.int .u64 0, .int .u64 0] 22)).alloc (by have := HB1.out.size; simp; omega) (.cells (led0 1 (.pointer none) (.pointer none) (.slice none 0 0)) 78))
    have hLw : w.heap.size < w1.heap.size + 1 := by omega
    clear R1 RC1 HB1 HG1 c1 c4 c5 c11
    refine (nonceNew _ _ (by go_simp) (by go_simp) _).mono ?_
    rintro e w2 ⟨b1, rfl, hb2⟩
    have RL2 := Lib.hid (RL.out.below hb2)
    have RC3 := Lib.hid (RC2.out.below hb2)
    have HB3 := Lib.hid (HB2.out.trans (hb2.mono HB2.out.size))
    clear hb2 RL RC2 HB2
    generalize w1.heap.size + 1 = L at *
    have cl3 := RL2.out.cell 3 (v := .pointer none) rfl
    have fl3 := RL2.out.free 3
    have cc4 := RC3.out.cell 4 (v := .int .i64 8) rfl
    have hll := RL2.out.lt
    have hcc := RC3.out.lt
    have hne : ¬ w.heap.size = L := by omega
    go_wp2_with fail
    have RL4 := Lib.hid (RL2.out.set 3 (.pointer (some ⟨b1, 0, none⟩)))
    have RC4 := Lib.hid (RC3.out.setOther hne 3 (.pointer (some ⟨b1, 0, none⟩)))
    have HB4 := Lib.hid (belowSet HB3.out (by omega : w.heap.size ≤ L) 3 (.pointer (some ⟨b1, 0, none⟩)))
    clear cl3 fl3 cc4 hll hcc RL2 RC3 HB3
    refine (poolNew' _).mono ?_
    rintro e w3 ⟨b2, rfl, hb3⟩
    have RL5 := Lib.hid (RL4.out.below hb3)
    have RC5 := Lib.hid (RC4.out.below hb3)
    have HB5 := Lib.hid (HB4.out.trans (hb3.mono HB4.out.size))
    clear hb3 RL4 RC4 HB4
    have cl4 := RL5.out.cell 4 (v := .pointer none) rfl
    have fl4 := RL5.out.free 4
    have cc0 := RC5.out.cell 0 (v := .slice (some ⟨g, 0, none⟩) 1 c) rfl
    have hll := RL5.out.lt
    have hcc := RC5.out.lt
    go_wp2_with fail
    have RL6 := Lib.hid (RL5.out.set 4 (.pointer (some ⟨b2, 0, none⟩)))
    have HB6 := Lib.hid (belowSet HB5.out (by omega : w.heap.size ≤ L) 4 (.pointer (some ⟨b2, 0, none⟩)))
    clear cl4 fl4 cc0 hll hcc RL5 RC5 HB5
    generalize w3.setCell _ _ = w4 at *
    have hg4 := (HB6.out.cell (p := ⟨g, 0, none⟩) hgl).trans HG.out
    refine wp_loop_rounds 2 ?_
    rw [rounds_succ]
    go_wp2_with fail
    refine (lineNew' 1 (by decide) _).mono ?_
    rintro e w5 ⟨N, m0, m1, rfl, rN, hm, hb5, hN4, hm4⟩
    have hL4 := RL6.out.lt
    have HB6s := HB6.out.size
    have HB6s := HB6.out.size
    have RN5 := Lib.hid rN
    have HM5 := Lib.hid hm
    have RL7 := Lib.hid (RL6.out.below hb5)
    have HB7 := Lib.hid (HB6.out.trans (hb5.mono HB6.out.size))
    clear hb5 rN hm RL6 HB6 hg4
    have cl5 := RL7.out.cell 5 (v := .slice none 0 0) rfl
    have fl5 := RL7.out.free 5
    have hll := RL7.out.lt
    go_wp2_with (at_builtin; go_must (refine wpList_append_one _ rfl (.tmp 87) (.tmp 89) 74 rfl w5.heap.size 63 i0 (.pointer none) 8 Try.underlying74 HI.out HZ0.out HZ1.out HZ2.out rfl (.pointer (some ⟨N, 0, none⟩)) rfl _ 0 _ rfl (World.ownsRow_nil _ _ _ _) rfl (by unfold maxLen; omega) (by omega) (Nat.le_refl _) ?_); intro v' w6 hown' hgrow _; obtain ⟨gl, cl, rfl, hg1, hg2⟩ := own_slice hown' (by omega); have hbw := ((Below.refl _ _).alloc (Nat.le_refl w5.heap.size) (.cells #[.pointer (some ⟨N, 0, none⟩)] 63)).grown hgrow (by simp) (fun j hj => by cases hj); have RN6 := Lib.hid (RN5.out.below hbw); have RL8 := Lib.hid (RL7.out.below hbw); have HM6 := Lib.hid ((hbw.block _ (lt_of_block HM5.out)).trans HM5.out); have HB8 := Lib.hid (HB7.out.trans (hbw.mono HB7.out.size)); have HO := Lib.hid (hown'.cellAt 0 (by omega)); have ql5 := RL8.out.cell 5 (v := .slice none 0 0) rfl; have gl5 := RL8.out.free 5; clear hbw hown' hgrow)
    rw [rounds_succ]
    go_wp2
    go_ret2
    refine ⟨L, rfl, ⟨1, .pointer (some ⟨b1, 0, none⟩), .pointer (some ⟨b2, 0, none⟩), gl, cl, N, m0, m1, ⟨(RL8.out.set 5 _).is⟩, ?_, RN6.out.setOther (by omega) _ _, block_setCell_other HM6.out (by omega) _, by omega, by have := HB7.out.size; omega, by have := HB7.out.size; have := HB6s; omega, by have := HB6s; omega⟩, belowSet HB8.out (by omega) _ _⟩
    exact (World.cell?_of_block (w := w6) (a := ⟨gl, 0, none⟩) (Below.heap_setCell _ _ _ _ (by show gl ≠ L; omega))).trans HO.out
def worldA (L0 L1 : Nat) : Array Value := #[.pointer (some ⟨L0, 0, none⟩), .pointer (some ⟨L1, 0, none⟩), .int .i64 0, .int .i64 0, .int .i64 0, .int .i64 0, .int .u64 0, .slice none 0 0]
structure Made (w : World) (W : Nat) : Prop where
  is : ∃ L0 L1, Row w W (worldA L0 L1) 53 ∧ Led w 0 L0 ∧ Led w 0 L1
theorem Made.below {w w' : World} {W : Nat} (h : Made w W) (hb : Below w.heap.size w w') : Made w' W := by
  obtain ⟨L0, L1, h1, h2, h3⟩ := h.is
  exact ⟨L0, L1, h1.below hb, h2.below hb, h3.below hb⟩
def worldZ (p q : Value) : Array Value := #[p, q, .int .i64 0, .int .i64 0, .int .i64 0, .int .i64 0, .int .u64 0, .slice none 0 0]
set_option maxHeartbeats 4000000 in
theorem worldNew (g c : Nat) (w : World) (hg : w.cell? ⟨g, 0, none⟩ = some (.bool false)) : Calls Try.prog 7 #[.agg (cfg (.slice (some ⟨g, 0, none⟩) 1 c))] w fun e w' => ∃ W, e = .returned (.tuple #[.pointer (some ⟨W, 0, none⟩), .int .i64 0]) ∧ Made w' W ∧ Below w.heap.size w w' := by
  have hgl : g < w.heap.size := World.block_lt_of_cell? w _ hg
  have HG := Lib.hid hg
  clear hg
  have HI1 := Lib.hid (show (Try.prog.info? 35).map (·.size) = some (cfg (.slice (some ⟨g, 0, none⟩) 1 c)).size by kernel_rfl)
  have RC0 := (Row.new w (cfg (.slice (some ⟨g, 0, none⟩) 1 c)) 35).alloc (.cells (worldZ (.pointer none) (.pointer none)) 53)
  have RW0 := Row.new (w.alloc (.cells (cfg (.slice (some ⟨g, 0, none⟩) 1 c)) 35)) (worldZ (.pointer none) (.pointer none)) 53
  rw [World.size_alloc] at RW0
  have HB0 := ((Below.refl w.heap.size w).alloc (Nat.le_refl _) (.cells (cfg (.slice (some ⟨g, 0, none⟩) 1 c)) 35)).alloc (by simp) (.cells (worldZ (.pointer none) (.pointer none)) 53)
  have RC := Lib.hid RC0
  have RW := Lib.hid RW0
  have HB := Lib.hid HB0
  clear RC0 RW0 HB0
  go_enter Try.func7, Try.ntmps7
  go_wp2
  refine wp_loop_rounds 3 ?_
  rw [rounds_succ]
  go_wp2_with (refine wpList_load_row rfl 35 _ rfl _ rfl 35 _ _ _ RC.out.is Try.underlying35 rfl HI1.out ?_)
  refine (ledNew 0 (by decide) _ _ _ ((HB.out.cell (p := ⟨g, 0, none⟩) hgl).trans HG.out)).mono ?_
  rintro e w1 ⟨L0, rfl, hl0, hb1⟩
  have HL0 := Lib.hid hl0
  have RC1 := Lib.hid (RC.out.below hb1)
  have RW1 := Lib.hid (RW.out.below hb1)
  have HB1 := Lib.hid (HB.out.trans (hb1.mono HB.out.size))
  have q0 := RW1.out.cell 0 (v := .pointer none) rfl
  have f0 := RW1.out.free 0
  have hW1 := RW1.out.lt
  clear hl0 hb1 RC RW HB
  go_wp2
  have RC2 := Lib.hid (RC1.out.setOther (by omega : w.heap.size ≠ w.heap.size + 1) 0 (.pointer (some ⟨L0, 0, none⟩)))
  have RW2 := Lib.hid (RW1.out.set 0 (.pointer (some ⟨L0, 0, none⟩)))
  have HB2 := Lib.hid (belowSet HB1.out (by omega : w.heap.size ≤ w.heap.size + 1) 0 (.pointer (some ⟨L0, 0, none⟩)))
  have HL2 := Lib.hid ((HL0.out.set (W := w.heap.size + 1) (by simp) 0 (.pointer (some ⟨L0, 0, none⟩))).mono (show w.heap.size + 2 ≤ _ by simp))
  clear q0 f0 hW1 RC1 RW1 HB1 HL0
  generalize w1.setCell _ _ = w2 at *
  rw [rounds_succ]
  go_wp2_with (refine wpList_load_row rfl 35 _ rfl _ rfl 35 _ _ _ RC2.out.is Try.underlying35 rfl HI1.out ?_)
  refine (ledNew 1 (by decide) _ _ _ ((HB2.out.cell (p := ⟨g, 0, none⟩) hgl).trans HG.out)).mono ?_
  rintro e w3 ⟨L1, rfl, hl1, hb3⟩
  have HL1 := Lib.hid hl1
  have HL3 := Lib.hid (HL2.out.below hb3)
  have RW3 := Lib.hid (RW2.out.below hb3)
  have HB3 := Lib.hid (HB2.out.trans (hb3.mono HB2.out.size))
  have q1 := RW3.out.cell 1 (v := .pointer none) rfl
  have f1 := RW3.out.free 1
  have hW2 := RW2.out.lt
  have hW3 := RW3.out.lt
  clear hl1 hb3 RC2 RW2 HB2 HL2
  go_wp2
  rw [rounds_succ]
  go_wp2
  go_ret2
  exact ⟨_, rfl, ⟨L0, L1, ⟨(RW3.out.set 1 _).is⟩, (HL3.out.set (by omega) 1 _).mono (Nat.zero_le _), (HL1.out.set (by omega) 1 _).mono (Nat.zero_le _)⟩, belowSet HB3.out (by omega) 1 _⟩
end Go.Proofs.Ytbodhkaohmfijaa.ScanWorld
