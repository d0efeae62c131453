/- muleteerlaw29.ScanNobody answers true for every input, and leaves its arguments as they were. Conditions: none. -/
import Derived.Test.YtbodhkaohmfijaaScanLaw
import Derived.ProofKit
import Derived.OpenShut
import Derived.Lib.SmallJoins
import Derived.Deep.Slices
import Derived.Deep.Fields
import Derived.ChangeSame
set_option linter.unusedVariables false
set_option linter.unusedSimpArgs false
namespace Go.Proofs.Ytbodhkaohmfijaa.ScanOpen
open Go.ChangeShapes Go.WideShapes Go.ChangeAt Go.RowKit
open Go.Joins Go.Deep
set_option maxRecDepth 100000
section
variable {H : Type} {enc : TypeId × Value → H} {w : World} {base : Nat} {spare : Nat → Bool} {held : Bool}
theorem c3 : Try.prog.cellsOf 3 = 1 := by kernel_rfl
theorem c22 : Try.prog.cellsOf 22 = 1 := by kernel_rfl
theorem c9 : Try.prog.cellsOf 9 = 1 := by kernel_rfl
theorem c24 : Try.prog.cellsOf 24 = 5 := by kernel_rfl
theorem int_at {n : Nat} {v : Value} {y : DataW H × List MemPlace} (h : DataW.trod enc Try.prog w base spare held n 3 [v] = some y) : ∃ z : Int, v = .int .i64 z := by
  obtain ⟨a, q, _, b⟩ := DataW.trod_int Try.underlying3 h
  simp at q
  exact ⟨a, q⟩
theorem u64_at {n : Nat} {v : Value} {y : DataW H × List MemPlace} (h : DataW.trod enc Try.prog w base spare held n 22 [v] = some y) : ∃ z : Int, v = .int .u64 z := by
  obtain ⟨a, q, _, b⟩ := DataW.trod_int Try.underlying22 h
  simp at q
  exact ⟨a, q⟩
theorem str_at {n : Nat} {v : Value} {y : DataW H × List MemPlace} (h : DataW.trod enc Try.prog w base spare held n 9 [v] = some y) : ∃ z : ByteArray, v = .string z := by
  obtain ⟨a, q, _, _⟩ := DataW.trod_string Try.underlying9 h
  simp at q
  exact ⟨a, q⟩
theorem list5 {l : List Value} (h : l.length = 5) : ∃ a b c d e, l = [a, b, c, d, e] := by
  match l, h with
  | [a, b, c, d, e], _ => exact ⟨a, b, c, d, e, rfl⟩
theorem list8 {l : List Value} (h : l.length = 8) : ∃ a b c d e f g i, l = [a, b, c, d, e, f, g, i] := by
  match l, h with
  | [a, b, c, d, e, f, g, i], _ => exact ⟨a, b, c, d, e, f, g, i, rfl⟩
theorem trod_packet {n : Nat} {cs : List Value} {y : DataW H × List MemPlace} (hl : cs.length = 5) (h : DataW.trod enc Try.prog w base spare held n 24 cs = some y) :
    ∃ (c f s t : Int) (d : ByteArray), cs = [.int .i64 c, .int .i64 f, .int .u64 s, .int .u64 t, .string d] := by
  obtain ⟨x0, x1, x2, x3, x4, rfl⟩ := list5 hl
  obtain ⟨xs, n', _, hx, _, hlen, hg⟩ := DataW.trod_struct Try.underlying24 h
  have g0 := hg 0 _ rfl
  have g1 := hg 1 _ rfl
  have g2 := hg 2 _ rfl
  have g3 := hg 3 _ rfl
  have g4 := hg 4 _ rfl
  simp only [List.getElem_toArray, List.getElem_cons_zero, List.getElem_cons_succ, c3, c22, c9, List.drop_zero, List.drop_succ_cons, List.take_succ_cons, List.take_zero] at g0 g1 g2 g3 g4
  have s : ∀ j, j < 5 → ∃ z, xs[j]? = some z := fun j hj => ⟨xs[j]'(by have : xs.length = 5 := hlen; omega), List.getElem?_eq_getElem _⟩
  obtain ⟨z0, e0⟩ := s 0 (by omega)
  obtain ⟨a0, q0⟩ := int_at (g0.trans e0)
  obtain ⟨z1, e1⟩ := s 1 (by omega)
  obtain ⟨a1, q1⟩ := int_at (g1.trans e1)
  obtain ⟨z2, e2⟩ := s 2 (by omega)
  obtain ⟨a2, q2⟩ := u64_at (g2.trans e2)
  obtain ⟨z3, e3⟩ := s 3 (by omega)
  obtain ⟨a3, q3⟩ := u64_at (g3.trans e3)
  obtain ⟨z4, e4⟩ := s 4 (by omega)
  obtain ⟨a4, q4⟩ := str_at (g4.trans e4)
  subst q0 q1 q2 q3 q4
  exact ⟨a0, a1, a2, a3, a4, rfl⟩
/-- an argument that is an event -/
theorem open_event {r : Reach} {b0 : Nat} {v : Value} {d : DataW H} {p : List MemPlace} (hv : Value.okWide Try.prog w r b0 26 v) (h : DataW.Trod enc Try.prog w base spare held 26 v d p) :
    ∃ (k i c f s t : Int) (x a : ByteArray), v = .agg #[.int .i64 k, .int .u64 i, .int .i64 c, .int .i64 f, .int .u64 s, .int .u64 t, .string x, .string a] := by
  obtain ⟨cs, rfl, hsz⟩ := okWide_struct Try.underlying26 hv
  have hk : Try.prog.cellsOf 26 = 8 := by kernel_rfl
  rw [hk] at hsz
  obtain ⟨l⟩ := cs
  obtain ⟨fuel, hf⟩ := h
  obtain ⟨x0, x1, x2, x3, x4, x5, x6, x7, rfl⟩ := list8 (by simpa using hsz)
  obtain ⟨xs, n', _, hx, _, hlen, hg⟩ := DataW.trod_struct Try.underlying26 hf
  have g0 := hg 0 _ rfl
  have g1 := hg 1 _ rfl
  have g2 := hg 2 _ rfl
  have g3 := hg 3 _ rfl
  simp only [Value.cells, List.getElem_toArray, List.getElem_cons_zero, List.getElem_cons_succ, c3, c22, c9, c24, List.drop_zero, List.drop_succ_cons, List.take_succ_cons, List.take_zero] at g0 g1 g2 g3
  have s : ∀ j, j < 4 → ∃ z, xs[j]? = some z := fun j hj => ⟨xs[j]'(by have : xs.length = 4 := hlen; omega), List.getElem?_eq_getElem _⟩
  obtain ⟨z0, e0⟩ := s 0 (by omega)
  obtain ⟨a0, q0⟩ := int_at (g0.trans e0)
  obtain ⟨z1, e1⟩ := s 1 (by omega)
  obtain ⟨a1, q1⟩ := u64_at (g1.trans e1)
  obtain ⟨z2, e2⟩ := s 2 (by omega)
  obtain ⟨a2, a3, a4, a5, a6, q2⟩ := trod_packet (by rfl) (g2.trans e2)
  obtain ⟨z3, e3⟩ := s 3 (by omega)
  obtain ⟨a7, q3⟩ := str_at (g3.trans e3)
  simp only [List.cons.injEq, and_true] at q2
  obtain ⟨r0, r1, r2, r3, r4⟩ := q2
  subst q0 q1 r0 r1 r2 r3 r4 q3
  exact ⟨a0, a1, a2, a3, a4, a5, a6, a7, rfl⟩
end
end Go.Proofs.Ytbodhkaohmfijaa.ScanOpen
namespace Go.Proofs.Ytbodhkaohmfijaa.scanNobody
open Go.ChangeShapes Go.WideShapes Go.ChangeAt Go.RowKit
open Go.Joins Go.Deep
set_option maxRecDepth 100000
theorem own : ownKnob Try.prog.godebug = none := by kernel_rfl
theorem laidOut : laidOutB Try.prog = true := by kernel_rfl
theorem lifted (os : Os) (started : os.Started) (H : Type) (enc : TypeId × Value → H) :
    ReturnsInHanded {} Try.checked os 3 .any (Rows.scanNobodySpec.pre6 enc Try.prog Try.f3 Rows.scanNobodyRow.domain false) (Rows.scanNobodySpec.post enc Try.prog Try.f3 false true false false) := by
  refine returnsInHanded_of_change (C := Try.checked) own started (by kernel_rfl) Try.func3
    (ChangeSpec.witness6 (enc := enc) (C := Try.checked) false ⟨#[], #[.agg #[.int .i64 0, .int .u64 0, .int .i64 0, .int .i64 0, .int .u64 0, .int .u64 0, .string ByteArray.empty, .string ByteArray.empty], .int .i64 0], []⟩ 8 (by kernel_rfl) (by kernel_rfl) (by kernel_rfl) (by kernel_rfl)) ?_
  intro W base args ds gs before hval0 hW hcnd _
  have hval : ∀ (j : Nat) t v, Try.f3.params[j]? = some t → args[j]? = some v → Value.okWide Try.prog W .any base t v := hval0
  have hW' := hW
  obtain ⟨p, q, hA0, hV, rfl, hfz, hnd⟩ := hW
  have hA : DataW.TrodAll enc Try.prog W 0 (fun _ => true) true Try.f3.params.toList args.toList ds p := hA0
  rw [Try.params3] at hA hval
  obtain ⟨v0, vs0, d0, ds0, p0, q0, hargs, rfl, rfl, h0, r0⟩ := trodAll_cons hA
  obtain ⟨v1, vs1, d1, ds1, p1, q1, rfl, rfl, rfl, h1, r1⟩ := trodAll_cons r0
  obtain ⟨rfl, rfl, rfl⟩ := trodAll_nil r1
  obtain rfl : args = #[v0, v1] := by cases args; simp_all
  obtain ⟨rfl, rfl⟩ := trodVars_none hV
  have k0 := h0
  have lt0 : ∀ x ∈ p0, x.block < W.heap.size := by obtain ⟨m, hm⟩ := k0; exact DataW.trod_lt m _ _ _ hm
  have k1 := h1
  have lt1 : ∀ x ∈ p1, x.block < W.heap.size := by obtain ⟨m, hm⟩ := k1; exact DataW.trod_lt m _ _ _ hm
  obtain ⟨k, i, c, f, s, t, x, a, rfl⟩ := ScanOpen.open_event (hval 0 26 v0 rfl rfl) h0
  obtain ⟨n, rfl, _, _, _⟩ := open_int Try.underlying3 (hval 1 3 v1 rfl rfl) h1
  clear hA0 hval0
  refine (ScanLaw.law k i c f s t n x a W).mono fun e W' ⟨he, bel⟩ => ?_
  subst he
  exact ⟨_, rfl, _, _, _, [], _, [], hW', trodAll_mk1 (shut_bool Try.underlying4 _), (trodAll_cons_mk (Below.trod laidOut (by kernel_rfl) (of_decide_eq_true (by kernel_rfl)) k0 bel lt0) (trodAll_cons_mk (Below.trod laidOut (by kernel_rfl) (of_decide_eq_true (by kernel_rfl)) k1 bel lt1) trodAll_mk0)), rfl, bel.frame _, fun h => by cases h⟩
theorem over : Rows.scanNobodyRow.holds Try.pinned (OpenSpec.ofChange Rows.scanNobodySpec) :=
  OpenClaim.holds_of_wide 3 Try.f3 rfl rfl rfl rfl rfl rfl rfl ⟨rfl, rfl, rfl, rfl, rfl⟩ rfl rfl rfl rfl rfl (by kernel_rfl) Try.func3 (by kernel_rfl)
    (of_decide_eq_true (by kernel_rfl)) (by unfold Func.isWrapper; first | (rw [if_pos (by decide +kernel)]; kernel_rfl) | (rw [if_neg (by decide +kernel)]; exact ⟨rfl, rfl⟩))
    (fun os started H enc _ => lifted os started H enc)
end Go.Proofs.Ytbodhkaohmfijaa.scanNobody
namespace Go.Proofs.Ytbodhkaohmfijaa
theorem scanNobody_holds : Rows.ScanNobodySaid := scanNobody.over
#print axioms scanNobody_holds
end Go.Proofs.Ytbodhkaohmfijaa
