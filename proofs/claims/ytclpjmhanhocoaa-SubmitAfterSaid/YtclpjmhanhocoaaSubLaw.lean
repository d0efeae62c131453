/- The walk of muleteerlaw31.SubmitAfter. Conditions: as stated in each theorem. -/
import Derived.Test.YtclpjmhanhocoaaSubAwake
import Derived.Test.YtclpjmhanhocoaaSubOpen
import Derived.Test.YtclpjmhanhocoaaSubAfter
set_option linter.unusedVariables false
set_option linter.unusedSimpArgs false
namespace Go.Proofs.Ytclpjmhanhocoaa.SubLaw
open Go.RowKit PSubmitAfter Base Go.Proofs.YtclpjmhanhocoaaW.PrintWords
set_option maxRecDepth 100000

theorem after_is (k who s a n : Int) (l : List S86) (e x : Int) : ∃ r : Int × Int × Int × Int × Int × Int × Int × Int × Int × Bool, SubAfter.submit_AfterF 2 k who s a n l e x = some r ∧ muleteerref31_After.f k who s a n l e x = some r := by
  by_cases h1 : k = 1
  · subst h1
    exact ⟨_, rfl, rfl⟩
  by_cases h2 : k = 2
  · subst h2
    exact ⟨_, rfl, rfl⟩
  by_cases h3 : k = 3
  · subst h3
    exact ⟨_, rfl, rfl⟩
  by_cases h4 : k = 4
  · subst h4
    exact ⟨_, rfl, rfl⟩
  by_cases h5 : k = 5
  · subst h5
    exact ⟨_, rfl, rfl⟩
  by_cases h6 : k = 6
  · subst h6
    exact ⟨_, rfl, rfl⟩
  by_cases h8 : k = 8
  · subst h8
    exact ⟨_, rfl, rfl⟩
  by_cases h9 : k = 9
  · subst h9
    exact ⟨_, rfl, rfl⟩
  · refine ⟨(0, 0, 0, 0, 0, 0, 0, 0, 0, false), ?_, ?_⟩
    · simp [SubAfter.submit_AfterF, SubAfter.bodyF, outcome_Op.f, outcome_Op.j0, h1, h2, h3, h4, h5, h6, h8, h9]
    · simp [muleteerref31_After.f, h1, h2, h3, h4, h5, h6, h8, h9]
theorem key_eq (d : Nat) (r3 r4 r5 : Int) (w : World) : (Op.equalIn (d + 2) 56 (.agg #[.int .i64 r3, .int .i64 r4, .int .u64 r5]) (.agg #[.int .i64 r3, .int .i64 r4, .int .u64 r5])).run Try.prog w = .ok (r3 == r3 && (r4 == r4 && r5 == r5)) w := by
    refine eq_struct Try.underlying56 (by kernel_rfl) ?_
    refine eqf_more (by rfl) (by go_simp; rfl) (by go_simp; rfl) (by go_simp) ?_
    refine eqf_more (by rfl) (by go_simp; rfl) (by go_simp; rfl) (by go_simp) ?_
    exact eqf_one (by rfl) (by go_simp; rfl) (by go_simp; rfl) (by go_simp)
theorem op_eq (d : Nat) (r1 r2 r3 r4 r5 r6 r7 r8 r9 : Int) (w : World) : (Op.equalIn (d + 3) 73 (.agg #[.int .i64 r1, .int .i64 r2, .int .i64 r3, .int .i64 r4, .int .u64 r5, .int .i64 r6, .int .i64 r7, .int .u64 r8, .int .u64 r9]) (.agg #[.int .i64 r1, .int .i64 r2, .int .i64 r3, .int .i64 r4, .int .u64 r5, .int .i64 r6, .int .i64 r7, .int .u64 r8, .int .u64 r9])).run Try.prog w = .ok true w := by
  have h : (Op.equalIn (d + 3) 73 (.agg #[.int .i64 r1, .int .i64 r2, .int .i64 r3, .int .i64 r4, .int .u64 r5, .int .i64 r6, .int .i64 r7, .int .u64 r8, .int .u64 r9]) (.agg #[.int .i64 r1, .int .i64 r2, .int .i64 r3, .int .i64 r4, .int .u64 r5, .int .i64 r6, .int .i64 r7, .int .u64 r8, .int .u64 r9])).run Try.prog w = .ok (r1 == r1 && (r2 == r2 && ((r3 == r3 && (r4 == r4 && r5 == r5)) && (r6 == r6 && (r7 == r7 && (r8 == r8 && r9 == r9)))))) w := by
    refine eq_struct Try.underlying73 (by kernel_rfl) ?_
    refine eqf_more (by rfl) (by go_simp; rfl) (by go_simp; rfl) (by go_simp) ?_
    refine eqf_more (by rfl) (by go_simp; rfl) (by go_simp; rfl) (by go_simp) ?_
    refine eqf_more (by rfl) (by go_simp) (by go_simp) (key_eq d r3 r4 r5 w) ?_
    refine eqf_more (by rfl) (by go_simp; rfl) (by go_simp; rfl) (by go_simp) ?_
    refine eqf_more (by rfl) (by go_simp; rfl) (by go_simp; rfl) (by go_simp) ?_
    refine eqf_more (by rfl) (by go_simp; rfl) (by go_simp; rfl) (by go_simp) ?_
    exact eqf_one (by rfl) (by go_simp; rfl) (by go_simp; rfl) (by go_simp)
  simpa using h
theorem op_self (r1 r2 r3 r4 r5 r6 r7 r8 r9 : Int) (w : World) : (binOp .eql 73 (.agg #[.int .i64 r1, .int .i64 r2, .int .i64 r3, .int .i64 r4, .int .u64 r5, .int .i64 r6, .int .i64 r7, .int .u64 r8, .int .u64 r9]) (.agg #[.int .i64 r1, .int .i64 r2, .int .i64 r3, .int .i64 r4, .int .u64 r5, .int .i64 r6, .int .i64 r7, .int .u64 r8, .int .u64 r9])).run Try.prog w = .ok (.bool true) w := by
  simp only [binOp]
  have h := op_eq 9997 r1 r2 r3 r4 r5 r6 r7 r8 r9 w
  have hd : Op.maxDepth = 9997 + 3 := rfl
  simp only [Op.equal, hd]
  simp [h]
theorem few (s a n : Int) (A : Option Addr) (c : Nat) (l : List S86) (w : World) (hr : Kd.C k86 w A l.length l) (hc : l.length ≤ c) :
    Calls Try.prog 35 #[.agg #[.int .i64 s, .int .i64 a, .int .u64 n, .slice A l.length c]] w fun e w' => e = .returned (.bool (SubOpen.fewT l)) ∧ Below w.heap.size w w' := by
  obtain ⟨k, hk⟩ := SubOpen.few_is s a n l (Kd.C_max hr)
  exact muleteerlaw05_Few.calls k _ _ _ _ _ l _ w hr hc hk
set_option maxHeartbeats 4000000 in
theorem law (k s a n : Int) (A : Option Addr) (c : Nat) (l : List S86) (x0 x1 x2 : Int) (w : World) (hr : Kd.C k86 w A l.length l) (hc : l.length ≤ c) (h0 : 0 ≤ x0) (h1 : x0 < 18446744073709551616) :
    Calls Try.prog 9 #[.int .i64 k, .agg #[.int .i64 s, .int .i64 a, .int .u64 n, .slice A l.length c], .agg #[.int .u64 x0, .int .u64 x1, .int .u64 x2]] w fun e w' => e = .returned (.bool true) ∧ Below w.heap.size w w' := by
  have HA := Lib.hid hr
  clear hr
  cases hq : SubOpen.fewT l
  · have HF := Lib.hid hq
    clear hq
    go_enter Try.func9, Try.ntmps9
    go_wp2_with fail
    refine (few _ _ _ _ _ l _ ((Kd.C_alloc (Kd.C_alloc HA.out _) _)) hc).mono ?_
    rintro e w1 ⟨rfl, hb1⟩
    rw [HF.out]
    have hB1 : Below w.heap.size w w1 := Base.bel (((Below.refl _ _).alloc (Nat.le_refl _) _).alloc (by simp) _) hb1 (by simp; omega)
    go_wp2_with fail
    refine (SubAwake.awake _).mono ?_
    rintro e w2 ⟨rfl, hb2⟩
    go_wp2
    go_ret
    exact ⟨rfl, Base.bel hB1 hb2 hB1.size⟩
  · have HF := Lib.hid hq
    clear hq
    go_enter Try.func9, Try.ntmps9
    go_wp2_with fail
    refine (few _ _ _ _ _ l _ ((Kd.C_alloc (Kd.C_alloc HA.out _) _)) hc).mono ?_
    rintro e w1 ⟨rfl, hb1⟩
    rw [HF.out]
    obtain ⟨hc1, hf1⟩ := Base.bcell hb1
    have hB1 : Below w.heap.size w w1 := Base.bel (((Below.refl _ _).alloc (Nat.le_refl _) _).alloc (by simp) _) hb1 (by simp; omega)
    have p1 : w.heap.size < w1.heap.size := by (have := hb1.size; simp at this; omega)
    have q1 : w.heap.size + 1 < w1.heap.size := by (have := hb1.size; simp at this; omega)
    go_wp2_with fail
    obtain ⟨⟨r1, r2, r3, r4, r5, r6, r7, r8, r9, r10⟩, hA, hB⟩ := after_is k (x0 % 100) s a n l x1 x2
    have HR := Lib.hid hA
    have HS := Lib.hid hB
    clear hA hB
    have heq := fun w => op_self r1 r2 r3 r4 r5 r6 r7 r8 r9 w
    refine (SubAfter.after 2 k (x0 % 100) s a n A c l x1 x2 _ _ _ _ _ _ _ _ _ _ _ HR.out).mono ?_
    rintro e w2 ⟨rfl, hb2⟩
    obtain ⟨hc2, hf2⟩ := Base.bcell hb2
    have hB2 : Below w.heap.size w w2 := Base.bel hB1 hb2 (by omega)
    have p2 : w.heap.size < w2.heap.size := by (have := hb2.size; omega)
    have q2 : w.heap.size + 1 < w2.heap.size := by (have := hb2.size; omega)
    go_wp2_with fail
    refine (muleteerref31_After.calls k (x0 % 100) s a n A c l x1 x2 _ _ _ _ _ _ _ _ _ _ _ (Kd.C_below HA.out (hB2.alloc hB2.size _)) hc HS.out).mono ?_
    rintro e w3 ⟨rfl, hb3⟩
    obtain ⟨hc3, hf3⟩ := Base.bcell hb3
    have hB3 : Below w.heap.size w w3 := Base.bel (hB2.alloc hB2.size _) hb3 (by have := hB2.size; simp; omega)
    have p3 : w2.heap.size < w3.heap.size := by (have := hb3.size; simp at this; omega)
    go_wp2_with fail
    refine (SubAwake.awake _).mono ?_
    rintro e w4 ⟨rfl, hb4⟩
    obtain ⟨hc4, hf4⟩ := Base.bcell hb4
    have hB4 : Below w.heap.size w w4 := Base.bel (hB3.alloc hB3.size _) hb4 (by have := hB3.size; simp; omega)
    have p4 : w3.heap.size < w4.heap.size := by (have := hb4.size; simp at this; omega)
    go_wp2
    go_ret
    exact ⟨rfl, hB4⟩
end Go.Proofs.Ytclpjmhanhocoaa.SubLaw
