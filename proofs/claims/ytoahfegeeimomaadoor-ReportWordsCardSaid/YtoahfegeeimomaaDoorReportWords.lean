/- muleteerlaw39.ReportWords answers true for every input, and leaves its arguments as they were; the tied card. Conditions: none beyond the row's own. -/
import Derived.Test.YtoahfegeeimomaaDoorWordsLaw
import Derived.Test.YtoahfegeeimomaaDoorTie
import Derived.Test.YtoahfegeeimomaaDoorCards
import Derived.ProofKit
import Derived.OpenShut
import Derived.Lib.SmallJoins
import Derived.Lib.LaidTab
import Derived.LaidMore
import Derived.Lay
import Derived.SevenTiedAt
import Derived.Stop.Joined
import Derived.ChangeSame
set_option linter.unusedVariables false
set_option linter.unusedSimpArgs false
namespace Go.Proofs.YtoahfegeeimomaaDoor.reportWords
open Go.ChangeShapes Go.WideShapes Go.ChangeAt Go.RowKit
open Go.Joins Go.Deep
set_option maxRecDepth 100000
theorem own : ownKnob Tryd.prog.godebug = none := by kernel_rfl
theorem laidOut : laidOutB Tryd.prog = true := by kernel_rfl
theorem pow_is {H : Type} : (Rows.laid_internal_strconv_uint64pow10 : DataW H) = Lib.tabData .u64 Lib.pow10Tab := by rfl
theorem tab {W : World} (h : laidMetH Tryd.prog Rows.reportWordsRow.laid W) : Lib.TabIs Tryd.prog W "internal/strconv.uint64pow10" .u64 Lib.pow10Tab := by
  rw [MakeChecks.laidMetH_plain _ _ _ (by kernel_rfl)] at h
  obtain ⟨ps, ⟨g1, t1, cs1, f1, p1, q1, hg1, ht1, hv1, hd1, ⟨g2, t2, cs2, f2, p2, q2, hg2, ht2, hv2, hd2, ⟨g, t, cs, fuel, p, q, hg, ht, hv, hd, _, _⟩, _⟩, _⟩, _, _⟩ := h
  obtain rfl := Option.some.inj ((show Tryd.prog.globalNamed "internal/strconv.uint64pow10" = some 2 by kernel_rfl).symm.trans hg)
  obtain rfl := Option.some.inj ((show (Tryd.prog.globals[2]?).map (·.type) = some 115 by kernel_rfl).symm.trans ht)
  rw [pow_is] at hd
  unfold Lib.TabIs
  rw [hv, ← Lib.cells_of_tab Tryd.underlying115 Tryd.underlying22 (by kernel_rfl) (by kernel_rfl) hd]
theorem i64_bound {n : Int} (h : (Lit.int .i64 n).wf = true) : -9223372036854775808 ≤ n ∧ n ≤ 9223372036854775807 := by
  have m1 : IntKind.i64.min = -9223372036854775808 := rfl
  have m2 : IntKind.i64.max = 9223372036854775807 := rfl
  simp only [Lit.wf, Bool.and_eq_true, decide_eq_true_eq, m1, m2] at h
  omega
theorem u64_bound {n : Int} (h : (Lit.int .u64 n).wf = true) : 0 ≤ n ∧ n < 18446744073709551616 := by
  have m1 : IntKind.u64.min = 0 := rfl
  have m2 : IntKind.u64.max = 18446744073709551615 := rfl
  simp only [Lit.wf, Bool.and_eq_true, decide_eq_true_eq, m1, m2] at h
  omega
theorem list3 {l : List Value} (h : l.length = 3) : ∃ a b c, l = [a, b, c] := by
  match l, h with
  | [a, b, c], _ => exact ⟨a, b, c, rfl⟩
theorem list4 {l : List Value} (h : l.length = 4) : ∃ a b c d, l = [a, b, c, d] := by
  match l, h with
  | [a, b, c, d], _ => exact ⟨a, b, c, d, rfl⟩
theorem list5 {l : List Value} (h : l.length = 5) : ∃ a b c d e, l = [a, b, c, d, e] := by
  match l, h with
  | [a, b, c, d, e], _ => exact ⟨a, b, c, d, e, rfl⟩
theorem list9 {l : List Value} (h : l.length = 9) : ∃ a b c d e f g i j, l = [a, b, c, d, e, f, g, i, j] := by
  match l, h with
  | [a, b, c, d, e, f, g, i, j], _ => exact ⟨a, b, c, d, e, f, g, i, j, rfl⟩
section
variable {H : Type} {enc : TypeId × Value → H} {w : World} {base : Nat} {spare : Nat → Bool} {held : Bool}
theorem c3 : Tryd.prog.cellsOf 3 = 1 := by kernel_rfl
theorem c22 : Tryd.prog.cellsOf 22 = 1 := by kernel_rfl
theorem c27 : Tryd.prog.cellsOf 27 = 1 := by kernel_rfl
theorem c24 : Tryd.prog.cellsOf 24 = 3 := by kernel_rfl
theorem int_at {n : Nat} {v : Value} {y : DataW H × List MemPlace} (h : DataW.trod enc Tryd.prog w base spare held n 3 [v] = some y) : ∃ z : Int, v = .int .i64 z ∧ Ops.r64 z := by
  obtain ⟨a, q, _, b⟩ := DataW.trod_int Tryd.underlying3 h
  simp at q
  exact ⟨a, q, i64_bound b⟩
theorem errno_at {n : Nat} {v : Value} {y : DataW H × List MemPlace} (h : DataW.trod enc Tryd.prog w base spare held n 27 [v] = some y) : ∃ z : Int, v = .int .i64 z := by
  obtain ⟨a, q, _, b⟩ := DataW.trod_int Tryd.underlying27 h
  simp at q
  exact ⟨a, q⟩
theorem u64_at {n : Nat} {v : Value} {y : DataW H × List MemPlace} (h : DataW.trod enc Tryd.prog w base spare held n 22 [v] = some y) : ∃ z : Nat, v = .int .u64 (z : Int) ∧ Ops.n64 z := by
  obtain ⟨a, q, _, b⟩ := DataW.trod_int Tryd.underlying22 h
  simp at q
  obtain ⟨b0, b1⟩ := u64_bound b
  obtain ⟨z, rfl⟩ := Int.eq_ofNat_of_zero_le b0
  exact ⟨z, q, by unfold Ops.n64; omega⟩
theorem trod_key {n : Nat} {cs : List Value} {y : DataW H × List MemPlace} (hl : cs.length = 3) (h : DataW.trod enc Tryd.prog w base spare held n 24 cs = some y) :
    ∃ (a0 : Int) (a1 : Int) (a2 : Nat), cs = [.int .i64 a0, .int .i64 a1, .int .u64 (a2 : Int)] ∧ Ops.r64 a0 ∧ Ops.n64 a2 := by
  obtain ⟨x0, x1, x2, rfl⟩ := list3 hl
  obtain ⟨xs, n', _, hx, _, hlen, hg⟩ := DataW.trod_struct Tryd.underlying24 h
  have g0 := hg 0 _ rfl
  have g1 := hg 1 _ rfl
  have g2 := hg 2 _ rfl
  simp only [List.getElem_toArray, List.getElem_cons_zero, List.getElem_cons_succ, c3, c22, c24, c27, List.drop_zero, List.drop_succ_cons, List.take_succ_cons, List.take_zero] at g0 g1 g2
  have s : ∀ j, j < 3 → ∃ z, xs[j]? = some z := fun j hj => ⟨xs[j]'(by have : xs.length = 3 := hlen; omega), List.getElem?_eq_getElem _⟩
  obtain ⟨z0, e0⟩ := s 0 (by omega)
  obtain ⟨a0, q0, r0⟩ := int_at (g0.trans e0)
  obtain ⟨z1, e1⟩ := s 1 (by omega)
  obtain ⟨a1, q1, r1⟩ := int_at (g1.trans e1)
  obtain ⟨z2, e2⟩ := s 2 (by omega)
  obtain ⟨a2, q2, r2⟩ := u64_at (g2.trans e2)
  subst q0 q1 q2
  exact ⟨a0, a1, a2, rfl, r0, r2⟩
theorem trod_op {n : Nat} {cs : List Value} {y : DataW H × List MemPlace} (hl : cs.length = 9) (h : DataW.trod enc Tryd.prog w base spare held n 26 cs = some y) :
    ∃ (a0 : Int) (a1 : Int) (a2c a2f : Int) (a2s : Nat) (a3 : Int) (a4 : Int) (a5 : Nat) (a6 : Nat), cs = [.int .i64 a0, .int .i64 a1, .int .i64 a2c, .int .i64 a2f, .int .u64 (a2s : Int), .int .i64 a3, .int .i64 a4, .int .u64 (a5 : Int), .int .u64 (a6 : Int)] ∧ Ops.r64 a0 ∧ Ops.r64 a1 ∧ (Ops.r64 a2c ∧ Ops.n64 a2s) ∧ Ops.r64 a3 ∧ Ops.r64 a4 ∧ Ops.n64 a5 ∧ Ops.n64 a6 := by
  obtain ⟨x0, x1, x2, x3, x4, x5, x6, x7, x8, rfl⟩ := list9 hl
  obtain ⟨xs, n', _, hx, _, hlen, hg⟩ := DataW.trod_struct Tryd.underlying26 h
  have g0 := hg 0 _ rfl
  have g1 := hg 1 _ rfl
  have g2 := hg 2 _ rfl
  have g3 := hg 3 _ rfl
  have g4 := hg 4 _ rfl
  have g5 := hg 5 _ rfl
  have g6 := hg 6 _ rfl
  simp only [List.getElem_toArray, List.getElem_cons_zero, List.getElem_cons_succ, c3, c22, c24, c27, List.drop_zero, List.drop_succ_cons, List.take_succ_cons, List.take_zero] at g0 g1 g2 g3 g4 g5 g6
  have s : ∀ j, j < 7 → ∃ z, xs[j]? = some z := fun j hj => ⟨xs[j]'(by have : xs.length = 7 := hlen; omega), List.getElem?_eq_getElem _⟩
  obtain ⟨z0, e0⟩ := s 0 (by omega)
  obtain ⟨a0, q0, r0⟩ := int_at (g0.trans e0)
  obtain ⟨z1, e1⟩ := s 1 (by omega)
  obtain ⟨a1, q1, r1⟩ := int_at (g1.trans e1)
  obtain ⟨z2, e2⟩ := s 2 (by omega)
  obtain ⟨a2c, a2f, a2s, q2, r2c, r2s⟩ := trod_key (by rfl) (g2.trans e2)
  simp only [List.cons.injEq, and_true] at q2
  obtain ⟨q2c, q2f, q2s⟩ := q2
  obtain ⟨z3, e3⟩ := s 3 (by omega)
  obtain ⟨a3, q3, r3⟩ := int_at (g3.trans e3)
  obtain ⟨z4, e4⟩ := s 4 (by omega)
  obtain ⟨a4, q4, r4⟩ := int_at (g4.trans e4)
  obtain ⟨z5, e5⟩ := s 5 (by omega)
  obtain ⟨a5, q5, r5⟩ := u64_at (g5.trans e5)
  obtain ⟨z6, e6⟩ := s 6 (by omega)
  obtain ⟨a6, q6, r6⟩ := u64_at (g6.trans e6)
  subst q0 q1 q2c q2f q2s q3 q4 q5 q6
  exact ⟨a0, a1, a2c, a2f, a2s, a3, a4, a5, a6, rfl, r0, r1, ⟨r2c, r2s⟩, r3, r4, r5, r6⟩
theorem trod_ret {n : Nat} {cs : List Value} {y : DataW H × List MemPlace} (hl : cs.length = 4) (h : DataW.trod enc Tryd.prog w base spare held n 29 cs = some y) :
    ∃ (a0 : Int) (a1 : Nat) (a2 : Nat) (a3 : Nat), cs = [.int .i64 a0, .int .u64 (a1 : Int), .int .u64 (a2 : Int), .int .u64 (a3 : Int)] ∧ Ops.n64 a1 ∧ Ops.n64 a2 ∧ Ops.n64 a3 := by
  obtain ⟨x0, x1, x2, x3, rfl⟩ := list4 hl
  obtain ⟨xs, n', _, hx, _, hlen, hg⟩ := DataW.trod_struct Tryd.underlying29 h
  have g0 := hg 0 _ rfl
  have g1 := hg 1 _ rfl
  have g2 := hg 2 _ rfl
  have g3 := hg 3 _ rfl
  simp only [List.getElem_toArray, List.getElem_cons_zero, List.getElem_cons_succ, c3, c22, c24, c27, List.drop_zero, List.drop_succ_cons, List.take_succ_cons, List.take_zero] at g0 g1 g2 g3
  have s : ∀ j, j < 4 → ∃ z, xs[j]? = some z := fun j hj => ⟨xs[j]'(by have : xs.length = 4 := hlen; omega), List.getElem?_eq_getElem _⟩
  obtain ⟨z0, e0⟩ := s 0 (by omega)
  obtain ⟨a0, q0⟩ := errno_at (g0.trans e0)
  obtain ⟨z1, e1⟩ := s 1 (by omega)
  obtain ⟨a1, q1, r1⟩ := u64_at (g1.trans e1)
  obtain ⟨z2, e2⟩ := s 2 (by omega)
  obtain ⟨a2, q2, r2⟩ := u64_at (g2.trans e2)
  obtain ⟨z3, e3⟩ := s 3 (by omega)
  obtain ⟨a3, q3, r3⟩ := u64_at (g3.trans e3)
  subst q0 q1 q2 q3
  exact ⟨a0, a1, a2, a3, rfl, r1, r2, r3⟩
theorem trod_entry {n : Nat} {cs : List Value} {y : DataW H × List MemPlace} (hl : cs.length = 5) (h : DataW.trod enc Tryd.prog w base spare held n 31 cs = some y) :
    ∃ (a0c a0f : Int) (a0s : Nat) (a1 : Int) (a2 : Int), cs = [.int .i64 a0c, .int .i64 a0f, .int .u64 (a0s : Int), .int .i64 a1, .int .i64 a2] ∧ (Ops.r64 a0c ∧ Ops.n64 a0s) ∧ Ops.r64 a1 ∧ Ops.r64 a2 := by
  obtain ⟨x0, x1, x2, x3, x4, rfl⟩ := list5 hl
  obtain ⟨xs, n', _, hx, _, hlen, hg⟩ := DataW.trod_struct Tryd.underlying31 h
  have g0 := hg 0 _ rfl
  have g1 := hg 1 _ rfl
  have g2 := hg 2 _ rfl
  simp only [List.getElem_toArray, List.getElem_cons_zero, List.getElem_cons_succ, c3, c22, c24, c27, List.drop_zero, List.drop_succ_cons, List.take_succ_cons, List.take_zero] at g0 g1 g2
  have s : ∀ j, j < 3 → ∃ z, xs[j]? = some z := fun j hj => ⟨xs[j]'(by have : xs.length = 3 := hlen; omega), List.getElem?_eq_getElem _⟩
  obtain ⟨z0, e0⟩ := s 0 (by omega)
  obtain ⟨a0c, a0f, a0s, q0, r0c, r0s⟩ := trod_key (by rfl) (g0.trans e0)
  simp only [List.cons.injEq, and_true] at q0
  obtain ⟨q0c, q0f, q0s⟩ := q0
  obtain ⟨z1, e1⟩ := s 1 (by omega)
  obtain ⟨a1, q1, r1⟩ := int_at (g1.trans e1)
  obtain ⟨z2, e2⟩ := s 2 (by omega)
  obtain ⟨a2, q2, r2⟩ := int_at (g2.trans e2)
  subst q0c q0f q0s q1 q2
  exact ⟨a0c, a0f, a0s, a1, a2, rfl, ⟨r0c, r0s⟩, r1, r2⟩
theorem open_op {r : Reach} {b0 : Nat} {v : Value} {d : DataW H} {p : List MemPlace} (hv : Value.okWide Tryd.prog w r b0 26 v) (h : DataW.Trod enc Tryd.prog w base spare held 26 v d p) :
    ∃ (n : Nat) (y : DataW H × List MemPlace) (cs : List Value), v = .agg cs.toArray ∧ cs.length = 9 ∧ DataW.trod enc Tryd.prog w base spare held n 26 cs = some y := by
  obtain ⟨cs, rfl, hsz⟩ := okWide_struct Tryd.underlying26 hv
  obtain ⟨fuel, hf⟩ := h
  exact ⟨fuel, _, cs.toList, by simp, by simp [hsz]; kernel_rfl, by simpa [Value.cells] using hf⟩
theorem open_ret {r : Reach} {b0 : Nat} {v : Value} {d : DataW H} {p : List MemPlace} (hv : Value.okWide Tryd.prog w r b0 29 v) (h : DataW.Trod enc Tryd.prog w base spare held 29 v d p) :
    ∃ (n : Nat) (y : DataW H × List MemPlace) (cs : List Value), v = .agg cs.toArray ∧ cs.length = 4 ∧ DataW.trod enc Tryd.prog w base spare held n 29 cs = some y := by
  obtain ⟨cs, rfl, hsz⟩ := okWide_struct Tryd.underlying29 hv
  obtain ⟨fuel, hf⟩ := h
  exact ⟨fuel, _, cs.toList, by simp, by simp [hsz]; kernel_rfl, by simpa [Value.cells] using hf⟩
theorem open_entry {r : Reach} {b0 : Nat} {v : Value} {d : DataW H} {p : List MemPlace} (hv : Value.okWide Tryd.prog w r b0 31 v) (h : DataW.Trod enc Tryd.prog w base spare held 31 v d p) :
    ∃ (n : Nat) (y : DataW H × List MemPlace) (cs : List Value), v = .agg cs.toArray ∧ cs.length = 5 ∧ DataW.trod enc Tryd.prog w base spare held n 31 cs = some y := by
  obtain ⟨cs, rfl, hsz⟩ := okWide_struct Tryd.underlying31 hv
  obtain ⟨fuel, hf⟩ := h
  exact ⟨fuel, _, cs.toList, by simp, by simp [hsz]; kernel_rfl, by simpa [Value.cells] using hf⟩
end
theorem lifted (os : Os) (started : os.Started) (H : Type) (enc : TypeId × Value → H) :
    ReturnsInHanded {} Tryd.checked os 3 .any (fun w args => (Rows.reportWordsSpec.pre enc Tryd.prog Tryd.f3 Rows.reportWordsRow.domain false w args ∧ laidMetH Tryd.prog Rows.reportWordsRow.laid w) ∧ sizedMet enc Tryd.prog Tryd.f3 (OpenSpec.ofChange Rows.reportWordsSpec) false w args)
      (Rows.reportWordsSpec.post enc Tryd.prog Tryd.f3 false true false false) := by
  refine returnsInHanded_of_change_and (C := Tryd.checked) (X := fun w _ => laidMetH Tryd.prog Rows.reportWordsRow.laid w) (fun _ _ _ hh h => h.of_heap hh) own started (by kernel_rfl) Tryd.func3
    (ChangeSpec.witness_shaped (enc := enc) (C := Tryd.checked) (os := os) (X := fun w _ => laidMetH Tryd.prog Rows.reportWordsRow.laid w) false (World.laidAll Tryd.prog os Rows.reportWordsRow.laid) #[.agg #[.int .i64 0, .int .i64 0, .int .i64 0, .int .i64 0, .int .u64 0, .int .i64 0, .int .i64 0, .int .u64 0, .int .u64 0], .agg #[.int .i64 0, .int .u64 0, .int .u64 0, .int .u64 0], .agg #[.int .i64 0, .int .i64 0, .int .u64 0, .int .i64 0, .int .i64 0]] 8 (World.laidAll_os _ _ _)
      (World.shaped_of_ZipB (by kernel_rfl) (by kernel_rfl)) (by kernel_rfl) (by kernel_rfl) (by kernel_rfl)
      (by rw [MakeChecks.laidMetH_plain _ _ _ (by kernel_rfl)]; exact laidMet_laidAll _ (by kernel_rfl) (by kernel_rfl))) ?_
  intro W base args ds gs before hval0 hW hc _ hL _
  have hval : ∀ (j : Nat) t v, Tryd.f3.params[j]? = some t → args[j]? = some v → Value.okWide Tryd.prog W .any base t v := hval0
  have hW' := hW
  obtain ⟨p, q, hA0, hV, rfl, hfz, hnd⟩ := hW
  have hA : DataW.TrodAll enc Tryd.prog W 0 (fun _ => true) true Tryd.f3.params.toList args.toList ds p := hA0
  rw [Tryd.params3] at hA hval
  obtain ⟨v0, vs0, d0, ds0, p0, q0, hargs, rfl, rfl, h0, r0⟩ := trodAll_cons hA
  obtain ⟨v1, vs1, d1, ds1, p1, q1, rfl, rfl, rfl, h1, r1⟩ := trodAll_cons r0
  obtain ⟨v2, vs2, d2, ds2, p2, q2, rfl, rfl, rfl, h2, r2⟩ := trodAll_cons r1
  obtain ⟨rfl, rfl, rfl⟩ := trodAll_nil r2
  obtain rfl : args = #[v0, v1, v2] := by cases args; simp_all
  obtain ⟨rfl, rfl⟩ := trodVars_none hV
  have k0 := h0
  have lt0 : ∀ x ∈ p0, x.block < W.heap.size := by obtain ⟨m, hm⟩ := k0; exact DataW.trod_lt m _ _ _ hm
  have k1 := h1
  have lt1 : ∀ x ∈ p1, x.block < W.heap.size := by obtain ⟨m, hm⟩ := k1; exact DataW.trod_lt m _ _ _ hm
  have k2 := h2
  have lt2 : ∀ x ∈ p2, x.block < W.heap.size := by obtain ⟨m, hm⟩ := k2; exact DataW.trod_lt m _ _ _ hm
  obtain ⟨n0, y0, cs0, rfl, l0, m0⟩ := open_op (hval 0 26 v0 rfl rfl) h0
  obtain ⟨n1, y1, cs1, rfl, l1, m1⟩ := open_ret (hval 1 29 v1 rfl rfl) h1
  obtain ⟨n2, y2, cs2, rfl, l2, m2⟩ := open_entry (hval 2 31 v2 rfl rfl) h2
  obtain ⟨k, who, c, f, s, sd, ac, ep, n, rfl, hk, hw, ⟨hc, hs⟩, hsd, ha, he, hn⟩ := trod_op l0 m0
  obtain ⟨e0, rp, rn, rm, rfl, hrp, hrn, hrm⟩ := trod_ret l1 m1
  obtain ⟨xc, xf, xs, st, ow, rfl, ⟨hxc, hxs⟩, hst, how⟩ := trod_entry l2 m2
  clear hA0 hval0
  refine (WordsLaw.law k who c f s sd ac ep n e0 rp rn rm xc xf xs st ow hw hc hs ha he hn hrp hrn hrm hxc hxs how W (fun w1 hb => Lib.tabBelow_of_tabIs (tab hL) w1 hb)).mono fun e W' ⟨he, bel⟩ => ?_
  subst he
  exact ⟨_, rfl, _, _, _, [], _, [], hW', trodAll_mk1 (shut_bool Tryd.underlying4 _), (trodAll_cons_mk (Below.trod laidOut (by kernel_rfl) (of_decide_eq_true (by kernel_rfl)) k0 bel lt0) (trodAll_cons_mk (Below.trod laidOut (by kernel_rfl) (of_decide_eq_true (by kernel_rfl)) k1 bel lt1) (trodAll_cons_mk (Below.trod laidOut (by kernel_rfl) (of_decide_eq_true (by kernel_rfl)) k2 bel lt2) trodAll_mk0))), rfl, bel.frame _, fun h => by cases h⟩
theorem row_holds : Rows.ReportWordsSaid :=
  OpenClaim.holds_of_wide 3 Tryd.f3 rfl rfl rfl rfl rfl rfl rfl ⟨rfl, rfl, rfl, rfl, rfl⟩ rfl rfl rfl rfl rfl (by kernel_rfl) Tryd.func3 (by kernel_rfl)
    (of_decide_eq_true (by kernel_rfl)) (by unfold Func.isWrapper; first | (rw [if_pos (by decide +kernel)]; kernel_rfl) | (rw [if_neg (by decide +kernel)]; exact ⟨rfl, rfl⟩))
    (fun os started H enc _ => lifted os started H enc)
theorem card : Rows.ReportWordsCardSaid :=
  Claim7.holds_tied_plain_at .later [] [.data, .data, .data] true (true, "08f903789aff309e4bc20c7f296256fd4c151abfc8b675dbe3d6a0c9a3d749ec") true row_holds (fun _ h => by cases h) (by kernel_rfl) (fun _ h => by cases h) reportWords_row_tie rfl ⟨rfl, rfl⟩ (by kernel_rfl) rfl
    (fun f fn hf hfn => by
      obtain rfl : f = 3 := Option.some.inj ((show Tryd.prog.funcNamed "muleteer/muleteerlaw39.ReportWords" = some 3 by kernel_rfl).symm.trans hf) |>.symm
      obtain rfl : fn = Tryd.f3 := (Option.some.inj (Tryd.func3.symm.trans hfn)).symm
      exact ⟨by kernel_rfl, fun j t ht => by
        rw [Tryd.params3] at ht
        have hm : t ∈ [26, 29, 31] := by simpa using Array.mem_of_getElem? ht
        have hall : ([26, 29, 31].all fun u => !Tryd.prog.wantsStandIn u) = true := by kernel_rfl
        exact (show Tryd.prog.wantsStandIn t = false by simpa using List.all_eq_true.1 hall t hm)⟩)
    (by kernel_rfl)
end Go.Proofs.YtoahfegeeimomaaDoor.reportWords
namespace Go.Proofs.YtoahfegeeimomaaDoor
theorem reportWords_holds : Rows.ReportWordsCardSaid := reportWords.card
#print axioms reportWords_holds
end Go.Proofs.YtoahfegeeimomaaDoor
