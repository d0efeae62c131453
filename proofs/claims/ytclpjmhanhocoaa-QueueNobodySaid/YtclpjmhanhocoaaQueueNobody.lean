/- muleteerlaw16.QueueNobody answers true for every input, and leaves its argument as it was. Conditions: none. -/
import Derived.Test.YtclpjmhanhocoaaQueueInt
import Derived.ProofKit
import Derived.OpenShut
import Derived.Lib.SmallJoins
set_option linter.unusedVariables false
set_option linter.unusedSimpArgs false
namespace Go.Proofs.Ytclpjmhanhocoaa.QueueNobody
open Go.RowKit Base
set_option maxRecDepth 100000
theorem awake (w : World) : Calls Try.prog 12 #[] w fun e w' => e = .returned (.bool true) ∧ Below w.heap.size w w' := by
  go_enter Try.func12, Try.ntmps12
  go_wp2_with fail
  refine (QInt.new 1 _ (by omega) (by omega)).mono ?_
  rintro e w1 ⟨q, g, rfl, hq0, hg0, hq1, hg1, hI, hb1⟩
  have H := Lib.hid hI
  clear hI
  go_wp2_with fail
  refine (QInt.put 5 H.out (by omega)).mono ?_
  rintro e w2 ⟨rfl, hI2, hO2⟩
  have H2 := Lib.hid hI2
  clear hI2
  go_wp2_with fail
  refine (QInt.put_full 6 H2.out).mono ?_
  rintro e w3 ⟨rfl, k, rfl⟩
  go_wp2_with fail
  refine (QInt.get 5 (H2.out.drewN k) (by simp [QInt.zeros])).mono ?_
  rintro e w4 ⟨rfl, hI4, hO4⟩
  have H4 := Lib.hid hI4
  clear hI4
  go_wp2
  go_ret
  refine ⟨rfl, Only.below hb1 ((hO2.drewN k).trans hO4) ?_ (by omega)⟩
  rintro i hi (rfl | rfl) <;> omega
theorem eqA56 (d : Nat) (w : World) (x0 y0 : Int) (x1 y1 : Int) (x2 y2 : Int) :
    (Op.equalIn (d + 2) 56 (.agg #[.int .i64 x0, .int .i64 x1, .int .u64 x2]) (.agg #[.int .i64 y0, .int .i64 y1, .int .u64 y2])).run Try.prog w = .ok (x0 == y0 && (x1 == y1 && (x2 == y2))) w := by
  refine eq_struct Try.underlying56 (by kernel_rfl) ?_
  refine eqf_more (by rfl) (by go_simp; rfl) (by go_simp; rfl) (by go_simp) ?_
  refine eqf_more (by rfl) (by go_simp; rfl) (by go_simp; rfl) (by go_simp) ?_
  exact eqf_one (by rfl) (by go_simp; rfl) (by go_simp; rfl) (by go_simp)

theorem len (w : World) : Calls Try.prog 32 #[.pointer none] w fun e w' => e = .returned (.int .i64 0) ∧ w' = w := by
  go_enter Try.func32, Try.ntmps32
  go_wp2
  go_ret
  exact ⟨rfl, rfl⟩
theorem peek (w : World) : Calls Try.prog 29 #[.pointer none] w fun e w' => e = .returned (.tuple #[.agg #[.int .i64 0, .int .i64 0, .int .u64 0], .bool false]) ∧ Below w.heap.size w w' := by
  go_enter Try.func29, Try.ntmps29
  go_wp2_with (go_at_call 32; refine (len _).mono ?_; rintro e w' ⟨rfl, rfl⟩)
  exact bodyPost_ret (v := .tuple #[.agg #[.int .i64 0, .int .i64 0, .int .u64 0], .bool false]) (by simp [results, Try.results29, go_sem]) rfl ⟨rfl, (((Below.refl _ _).alloc (Nat.le_refl _) _).alloc (by simp) _)⟩
theorem get (w : World) : Calls Try.prog 28 #[.pointer none] w fun e w' => e = .returned (.tuple #[.agg #[.int .i64 0, .int .i64 0, .int .u64 0], .bool false]) ∧ Below w.heap.size w w' := by
  go_enter Try.func28, Try.ntmps28
  go_wp2_with (go_at_call 29; refine (peek _).mono ?_; rintro e w1 ⟨rfl, hb1⟩; obtain ⟨hcl, hfr⟩ := bcell hb1; have hz : w.heap.size < w1.heap.size := by (have := hb1.size; simp at this; omega))
  refine bodyPost_ret (v := .tuple #[.agg #[.int .i64 0, .int .i64 0, .int .u64 0], .bool false]) (by simp [results, Try.results28, go_sem, hcl, hz]) rfl ⟨rfl, ?_⟩
  have hb := bel ((Below.refl _ _).alloc (Nat.le_refl _) _) hb1 (by simp)
  exact (((hb.setCell (Nat.le_refl _) _).setCell (Nat.le_refl _) _).setCell (Nat.le_refl _) _).alloc (by simp; omega) _
theorem put (c f s : Int) (w : World) : Calls Try.prog 31 #[.pointer none, .agg #[.int .i64 c, .int .i64 f, .int .u64 s]] w fun e w' => e = .returned (.int .i64 1) ∧ Below w.heap.size w w' := by
  go_enter Try.func31, Try.ntmps31
  go_wp2
  go_ret
  exact ⟨rfl, ((Below.refl _ _).alloc (Nat.le_refl _) _)⟩
theorem room (w : World) : Calls Try.prog 33 #[.pointer none] w fun e w' => e = .returned (.int .i64 0) ∧ w' = w := by
  go_enter Try.func33, Try.ntmps33
  go_wp2
  go_ret
  exact ⟨rfl, rfl⟩
theorem clear (w : World) : Calls Try.prog 30 #[.pointer none] w fun e w' => e = .returned (.tuple #[]) ∧ w' = w := by
  go_enter Try.func30, Try.ntmps30
  go_wp2
  go_end0
  exact ⟨rfl, rfl⟩
theorem all (w : World) : Calls Try.prog 34 #[.pointer none] w fun e w' => e = .returned (.slice none 0 0) ∧ w' = w := by
  go_enter Try.func34, Try.ntmps34
  go_wp2_with (go_at_call 32; refine (len _).mono ?_; rintro e w' ⟨rfl, rfl⟩)
  refine wp_loop_rounds 1 ?_
  rw [rounds_succ]
  go_wp2
  go_ret
  exact ⟨rfl, rfl⟩
attribute [local go_sem high] eqA56
theorem law (c f s : Int) (w : World) : Calls Try.prog 6 #[.agg #[.int .i64 c, .int .i64 f, .int .u64 s]] w fun e w' => e = .returned (.bool true) ∧ Below w.heap.size w w' := by
  go_enter Try.func6, Try.ntmps6
  go_wp2_with fail
  refine (get _).mono ?_
  rintro e w1 ⟨rfl, hb1⟩
  obtain ⟨hcl, hfr⟩ := bcell hb1
  have hz : w.heap.size < w1.heap.size := by (have := hb1.size; simp at this; omega)
  go_wp2_with fail
  refine (peek _).mono ?_
  rintro e w2 ⟨rfl, hb2⟩
  obtain ⟨hcl2, hfr2⟩ := bcell hb2
  have hz2 : w.heap.size < w2.heap.size := by (have := hb2.size; simp at this; omega)
  have hz3 : w1.heap.size < w2.heap.size := by (have := hb2.size; simp at this; omega)
  go_wp2_with fail
  refine (clear _).mono ?_
  rintro e w3 ⟨rfl, rfl⟩
  go_wp2_with fail
  refine (awake _).mono ?_
  rintro e w4 ⟨rfl, hb4⟩
  obtain ⟨hcl4, hfr4⟩ := bcell hb4
  have hz4 : w.heap.size < w4.heap.size := by (have := hb4.size; simp at this; omega)
  have hz5 : w1.heap.size < w4.heap.size := by (have := hb4.size; simp at this; omega)
  have hz6 : w2.heap.size < w4.heap.size := by (have := hb4.size; simp at this; omega)
  go_wp2_with fail
  refine (put _ _ _ _).mono ?_
  rintro e w5 ⟨rfl, hb5⟩
  obtain ⟨hcl5, hfr5⟩ := bcell hb5
  go_wp2_with fail
  refine (len _).mono ?_
  rintro e w6 ⟨rfl, rfl⟩
  go_wp2_with fail
  refine (room _).mono ?_
  rintro e w7 ⟨rfl, rfl⟩
  go_wp2_with fail
  refine (all _).mono ?_
  rintro e w8 ⟨rfl, rfl⟩
  go_wp2
  go_ret
  refine ⟨rfl, ?_⟩
  exact bel (bel ((bel ((bel ((Below.refl _ _).alloc (Nat.le_refl _) _) hb1 (by simp)).alloc (by omega) _) hb2 (by simp; omega)).alloc (by omega) _) hb4 (by simp; omega)) hb5 (by omega)
end Go.Proofs.Ytclpjmhanhocoaa.QueueNobody
namespace Go.Proofs.Ytclpjmhanhocoaa.queueNobody
open Go.ChangeShapes Go.WideShapes Go.ChangeAt Go.RowKit
open Go.Joins
set_option maxRecDepth 100000
theorem own : ownKnob Try.prog.godebug = none := by kernel_rfl
theorem laidOut : laidOutB Try.prog = true := by kernel_rfl
theorem lifted (os : Os) (started : os.Started) (H : Type) (enc : TypeId × Value → H) :
    ReturnsInHanded {} Try.checked os 6 .any (Rows.queueNobodySpec.pre6 enc Try.prog Try.f6 Rows.queueNobodyRow.domain false) (Rows.queueNobodySpec.post enc Try.prog Try.f6 false true false false) := by
  refine returnsInHanded_of_change (C := Try.checked) own started (by kernel_rfl) Try.func6
    (ChangeSpec.witness6 (enc := enc) (C := Try.checked) false ⟨#[], #[.agg #[.int .i64 0, .int .i64 0, .int .u64 0]], []⟩ 8 (by kernel_rfl) (by kernel_rfl) (by kernel_rfl) (by kernel_rfl)) ?_
  intro W base args ds gs before hval0 hW hcnd _
  have hval : ∀ (j : Nat) t v, Try.f6.params[j]? = some t → args[j]? = some v → Value.okWide Try.prog W .any base t v := hval0
  have hW' := hW
  obtain ⟨p, q, hA0, hV, rfl, hfz, hnd⟩ := hW
  have hA : DataW.TrodAll enc Try.prog W 0 (fun _ => true) true Try.f6.params.toList args.toList ds p := hA0
  rw [Try.params6] at hA hval
  obtain ⟨v0, d0, rfl, rfl, h0⟩ := trodAll_one hA
  obtain ⟨rfl, rfl⟩ := trodVars_none hV
  have k0 := h0
  have lt0 : ∀ x ∈ p, x.block < W.heap.size := by obtain ⟨m, hm⟩ := k0; exact DataW.trod_lt m _ _ _ hm
  obtain ⟨c0, c1, c2, y0, y1, y2, n, rfl, _, _, h0, h1, h2⟩ := open_agg3 Try.underlying56 (by kernel_rfl) (by kernel_rfl) (hval 0 56 v0 rfl rfl) h0
  obtain ⟨a0, e0, _, _⟩ := DataW.trod_int Try.underlying3 h0
  obtain ⟨a1, e1, _, _⟩ := DataW.trod_int Try.underlying3 h1
  obtain ⟨a2, e2, _, _⟩ := DataW.trod_int Try.underlying22 h2
  simp at e0 e1 e2
  subst e0 e1 e2
  clear hA0 hval0
  simp only [List.append_nil] at hW'
  refine (QueueNobody.law a0 a1 a2 W).mono fun e W' ⟨he, bel⟩ => ?_
  subst he
  exact ⟨_, rfl, _, _, _, [], _, [], hW', trodAll_mk1 (shut_bool Try.underlying4 _), trodAll_mk1 (Below.trod laidOut (by kernel_rfl) (of_decide_eq_true (by kernel_rfl)) k0 bel lt0), rfl, bel.frame _, fun h => by cases h⟩
theorem over : Rows.queueNobodyRow.holds Try.pinned (OpenSpec.ofChange Rows.queueNobodySpec) :=
  OpenClaim.holds_of_wide 6 Try.f6 rfl rfl rfl rfl rfl rfl rfl ⟨rfl, rfl, rfl, rfl, rfl⟩ rfl rfl rfl rfl rfl (by kernel_rfl) Try.func6 (by kernel_rfl)
    (of_decide_eq_true (by kernel_rfl)) (by unfold Func.isWrapper; first | (rw [if_pos (by decide +kernel)]; kernel_rfl) | (rw [if_neg (by decide +kernel)]; exact ⟨rfl, rfl⟩))
    (fun os started H enc _ => lifted os started H enc)
end Go.Proofs.Ytclpjmhanhocoaa.queueNobody
namespace Go.Proofs.Ytclpjmhanhocoaa
theorem queueNobody_holds : Rows.QueueNobodySaid := queueNobody.over
#print axioms queueNobody_holds
end Go.Proofs.Ytclpjmhanhocoaa
