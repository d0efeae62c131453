/- The arguments of muleteerlaw31.SubmitAfter, opened; and that Few answers. Conditions: as stated in each theorem. -/
import Derived.Test.YtclpjmhanhocoaaPSubmitAfterx1
import Derived.Test.YtclpjmhanhocoaaPSubmitAfterx3
import Derived.Test.YtclpjmhanhocoaaOpen
import Derived.IntWalk
set_option linter.unusedVariables false
set_option linter.unusedSimpArgs false
namespace Go.Proofs.Ytclpjmhanhocoaa.SubOpen
open Go.ChangeShapes Go.WideShapes Go.ChangeAt Go.RowKit
open Go.Joins Go.Deep PSubmitAfter Go.Proofs.YtclpjmhanhocoaaW.PrintWords
set_option maxRecDepth 100000
def okM (m : S86) : Prop := 0 ≤ m.f1.f2 ∧ m.f1.f2 < 18446744073709551616 ∧ 0 ≤ m.f1.f3 ∧ m.f1.f3 < 18446744073709551616
def fewT (l : List S86) : Bool := decide (l.length ≤ 12) && l.all (fun m => decide ((m.f1.f4.size : Int) ≤ 200) && decide ((m.f2.size : Int) ≤ 200))
theorem wrap_in {i : Int} {n : Nat} (h0 : 0 ≤ i) (h : i < n) (hn : n ≤ 9223372036854775807) : wrap64 (i + 1) = i + 1 := by unfold wrap64; omega
theorem few_l0 (l : List S86) (hl : l.length ≤ 9223372036854775807) (a b c : Int) : ∀ (d : Nat) (i : Nat) (k : Nat), i + d = l.length → d < k →
    muleteerlaw05_Few.l0 k i a b c l = some ((l.drop i).all (fun m => decide ((m.f1.f4.size : Int) ≤ 200) && decide ((m.f2.size : Int) ≤ 200))) := by
  intro d
  induction d with
  | zero =>
    intro i k hi hk
    obtain ⟨k, rfl⟩ : ∃ m, k = m + 1 := ⟨k - 1, by omega⟩
    simp only [muleteerlaw05_Few.l0]
    rw [if_neg (by omega), List.drop_of_length_le (by omega)]
    rfl
  | succ d ih =>
    intro i k hi hk
    obtain ⟨k, rfl⟩ : ∃ m, k = m + 1 := ⟨k - 1, by omega⟩
    have hlt : i < l.length := by omega
    have e : rd_T86 l (i : Int) = l[i] := by unfold rd_T86; simp [List.getD_eq_getElem?_getD, hlt]
    simp only [muleteerlaw05_Few.l0]
    rw [if_pos (by omega), if_pos (by omega), wrap_in (n := l.length) (by omega) (by omega) hl, e, List.drop_eq_getElem_cons hlt, List.all_cons]
    have hi := ih (i + 1) k (by omega) (by omega)
    rw [show ((i + 1 : Nat) : Int) = (i : Int) + 1 by omega] at hi
    rw [hi]
    by_cases h1 : (l[i].f1.f4.size : Int) > 200
    · have : ¬ (l[i].f1.f4.size : Int) ≤ 200 := by omega
      simp [h1, this]
    · have h1' : (l[i].f1.f4.size : Int) ≤ 200 := by omega
      by_cases h2 : (l[i].f2.size : Int) > 200
      · have : ¬ (l[i].f2.size : Int) ≤ 200 := by omega
        simp [h1, h2, this]
      · have h2' : (l[i].f2.size : Int) ≤ 200 := by omega
        simp [h1, h2, h1', h2']
theorem few_is (a b c : Int) (l : List S86) (hl : l.length ≤ 9223372036854775807) : ∃ k, muleteerlaw05_Few.f k a b c l = some (fewT l) := by
  refine ⟨l.length + 1, ?_⟩
  unfold muleteerlaw05_Few.f fewT
  by_cases h : (l.length : Int) > 12
  · have : ¬ l.length ≤ 12 := by omega
    simp [h, this]
  · have h12 : l.length ≤ 12 := by omega
    have := few_l0 l hl a b c l.length 0 (l.length + 1) (by omega) (by omega)
    simp only [List.drop_zero] at this
    rw [if_neg h]
    simp [h12]
    exact this
section
variable {H : Type} {enc : TypeId × Value → H} {w : World} {base : Nat} {spare : Nat → Bool} {held : Bool}
theorem c3 : Try.prog.cellsOf 3 = 1 := by kernel_rfl
theorem c22 : Try.prog.cellsOf 22 = 1 := by kernel_rfl
theorem c9 : Try.prog.cellsOf 9 = 1 := by kernel_rfl
theorem c24 : Try.prog.cellsOf 24 = 5 := by kernel_rfl
theorem c64 : Try.prog.cellsOf 64 = 1 := by kernel_rfl
theorem u64_bound {n : Int} (h : (Lit.int .u64 n).wf = true) : 0 ≤ n ∧ n < 18446744073709551616 := by
  have m1 : IntKind.u64.min = 0 := rfl
  have m2 : IntKind.u64.max = 18446744073709551615 := rfl
  simp only [Lit.wf, Bool.and_eq_true, decide_eq_true_eq, m1, m2] at h
  omega
theorem list5 {l : List Value} (h : l.length = 5) : ∃ a b c d e, l = [a, b, c, d, e] := by
  match l, h with
  | [a, b, c, d, e], _ => exact ⟨a, b, c, d, e, rfl⟩
theorem list7 {l : List Value} (h : l.length = 7) : ∃ a b c d e f g, l = [a, b, c, d, e, f, g] := by
  match l, h with
  | [a, b, c, d, e, f, g], _ => exact ⟨a, b, c, d, e, f, g, rfl⟩
theorem trod_packet {n : Nat} {cs : List Value} {y : DataW H × List MemPlace} (hl : cs.length = 5) (h : DataW.trod enc Try.prog w base spare held n 24 cs = some y) :
    ∃ p : S24, cs = [.int .i64 p.f0, .int .i64 p.f1, .int .u64 p.f2, .int .u64 p.f3, .string p.f4] ∧ 0 ≤ p.f2 ∧ p.f2 < 18446744073709551616 ∧ 0 ≤ p.f3 ∧ p.f3 < 18446744073709551616 := by
  obtain ⟨x0, x1, x2, x3, x4, rfl⟩ := list5 hl
  obtain ⟨xs, n', _, hx, _, hlen, hg⟩ := DataW.trod_struct Try.underlying24 h
  have g0 := hg 0 _ rfl
  have g1 := hg 1 _ rfl
  have g2 := hg 2 _ rfl
  have g3 := hg 3 _ rfl
  have g4 := hg 4 _ rfl
  simp only [List.getElem_toArray, List.getElem_cons_zero, List.getElem_cons_succ, c3, c22, c9, List.drop_zero, List.drop_succ_cons, List.take_succ_cons, List.take_zero] at g0 g1 g2 g3 g4
  have s : ∀ j, j < 5 → ∃ z, xs[j]? = some z := fun j hj => ⟨xs[j]'(by have : xs.length = 5 := hlen; omega), List.getElem?_eq_getElem _⟩
  obtain ⟨z0, e0⟩ := s 0 (by omega)
  obtain ⟨z1, e1⟩ := s 1 (by omega)
  obtain ⟨z2, e2⟩ := s 2 (by omega)
  obtain ⟨z3, e3⟩ := s 3 (by omega)
  obtain ⟨z4, e4⟩ := s 4 (by omega)
  obtain ⟨a0, q0, _, _⟩ := DataW.trod_int Try.underlying3 (g0.trans e0)
  obtain ⟨a1, q1, _, _⟩ := DataW.trod_int Try.underlying3 (g1.trans e1)
  obtain ⟨a2, q2, _, w2⟩ := DataW.trod_int Try.underlying22 (g2.trans e2)
  obtain ⟨a3, q3, _, w3⟩ := DataW.trod_int Try.underlying22 (g3.trans e3)
  obtain ⟨a4, q4, _, _⟩ := DataW.trod_string Try.underlying9 (g4.trans e4)
  simp only [List.cons.injEq, and_true] at q0 q1 q2 q3 q4
  subst q0 q1 q2 q3 q4
  exact ⟨⟨a0, a1, a2, a3, a4⟩, rfl, (u64_bound w2).1, (u64_bound w2).2, (u64_bound w3).1, (u64_bound w3).2⟩
theorem trod_msg {n : Nat} {cs : List Value} {y : DataW H × List MemPlace} (hl : cs.length = 7) (h : DataW.trod enc Try.prog w base spare held n 86 cs = some y) :
    ∃ m : S86, cs = [.int .i64 m.f0, .int .i64 m.f1.f0, .int .i64 m.f1.f1, .int .u64 m.f1.f2, .int .u64 m.f1.f3, .string m.f1.f4, .string m.f2] ∧ okM m := by
  obtain ⟨x0, x1, x2, x3, x4, x5, x6, rfl⟩ := list7 hl
  obtain ⟨xs, n', _, hx, _, hlen, hg⟩ := DataW.trod_struct Try.underlying86 h
  have g0 := hg 0 _ rfl
  have g1 := hg 1 _ rfl
  have g2 := hg 2 _ rfl
  simp only [List.getElem_toArray, List.getElem_cons_zero, List.getElem_cons_succ, c3, c24, c9, List.drop_zero, List.drop_succ_cons, List.take_succ_cons, List.take_zero] at g0 g1 g2
  have s : ∀ j, j < 3 → ∃ z, xs[j]? = some z := fun j hj => ⟨xs[j]'(by have : xs.length = 3 := hlen; omega), List.getElem?_eq_getElem _⟩
  obtain ⟨z0, e0⟩ := s 0 (by omega)
  obtain ⟨z1, e1⟩ := s 1 (by omega)
  obtain ⟨z2, e2⟩ := s 2 (by omega)
  obtain ⟨a0, q0, _, _⟩ := DataW.trod_int Try.underlying3 (g0.trans e0)
  obtain ⟨p, q1, o1, o2, o3, o4⟩ := trod_packet (by rfl) (g1.trans e1)
  obtain ⟨a2, q2, _, _⟩ := DataW.trod_string Try.underlying9 (g2.trans e2)
  simp only [List.cons.injEq, and_true] at q0 q1 q2
  obtain ⟨r0, r1, r2, r3, r4⟩ := q1
  subst q0 r0 r1 r2 r3 r4 q2
  exact ⟨⟨a0, p, a2⟩, rfl, o1, o2, o3, o4⟩
/-- a slice of messages that came in -/
theorem open_msgs {n : Nat} {v : Value} {y : DataW H × List MemPlace} (h : DataW.trod enc Try.prog w base spare held n 64 [v] = some y) :
    ∃ (A : Option Addr) (c : Nat) (l : List S86), v = .slice A l.length c ∧ l.length ≤ c ∧ Kd.C k86 w A l.length l ∧ ∀ m ∈ l, okM m := by
  have hs : ∃ A len c, v = .slice A len c ∧ len ≤ c ∧ c ≤ maxLen := by
    rcases open_slice Try.underlying64 h with ⟨h0, _⟩ | ⟨a', len', cap', m, n, D, Pl, hcs, hb, hl, hm, _⟩
    · injection h0 with h0 _
      exact ⟨none, 0, 0, h0, Nat.le_refl _, by unfold maxLen; omega⟩
    · injection hcs with hcs _
      exact ⟨some a', len', cap', hcs, hl, hm⟩
  obtain ⟨A, len, c, rfl, hlc, hcm⟩ := hs
  have h1 := fun i hi => Open.reads (k := 7) Try.underlying64 (by kernel_rfl) (by decide) h i hi
  have h2 : ∀ i, i < len → ∃ m : S86, okM m ∧ ∃ b o, A = some ⟨b, o, none⟩ ∧ ∀ j u, [Value.int .i64 m.f0, .int .i64 m.f1.f0, .int .i64 m.f1.f1, .int .u64 m.f1.f2, .int .u64 m.f1.f3, .string m.f1.f4, .string m.f2][j]? = some u → w.cell? ⟨b, o + i * 7 + j, none⟩ = some u := by
    intro i hi
    obtain ⟨b, o, ha, hb, cs, n, y, hl, hc, ht⟩ := h1 i hi
    obtain ⟨m, rfl, hm⟩ := trod_msg hl ht
    refine ⟨m, hm, b, o, ha, fun j u hu => ?_⟩
    have hj : j < 7 := by
      have := (List.getElem?_eq_some_iff.1 hu).1
      simpa using this
    rw [hc j hj, hu]
  let f : Nat → S86 := fun i => if hi : i < len then (h2 i hi).choose else z86
  have hf : ∀ i, i < len → okM (f i) ∧ ∃ b o, A = some ⟨b, o, none⟩ ∧ ∀ j u, [Value.int .i64 (f i).f0, .int .i64 (f i).f1.f0, .int .i64 (f i).f1.f1, .int .u64 (f i).f1.f2, .int .u64 (f i).f1.f3, .string (f i).f1.f4, .string (f i).f2][j]? = some u → w.cell? ⟨b, o + i * 7 + j, none⟩ = some u := by
    intro i hi
    have := (h2 i hi).choose_spec
    simp only [f, dif_pos hi]
    exact this
  have hlen : ((List.range len).map f).length = len := by simp
  refine ⟨A, c, (List.range len).map f, by rw [hlen], by rw [hlen]; exact hlc, ?_, ?_⟩
  · rw [hlen]
    refine ⟨hlen, by unfold maxLen at hcm; omega, fun h0 => ?_⟩
    obtain ⟨_, b, o, ha, _⟩ := hf 0 h0
    refine ⟨⟨b, o, none⟩, ha, fun j p hj => ?_⟩
    have hjl : j < len := by
      have := (List.getElem?_eq_some_iff.1 hj).1
      simpa using this
    have hp : p = f j := by
      simp [List.getElem?_range, hjl] at hj
      exact hj.symm
    subst hp
    obtain ⟨_, b', o', ha', hcell⟩ := hf j hjl
    rw [ha] at ha'
    injection ha' with ha'
    injection ha' with e1 e2 _
    subst e1 e2
    refine ⟨_, rfl, k86_mk w (f j), fun i u hu => ?_⟩
    rw [Open.add_plain, ← Nat.add_assoc]
    exact hcell i u hu
  · intro m hm
    obtain ⟨i, hi, rfl⟩ := List.mem_map.1 hm
    exact (hf i (by simpa using hi)).1
/-- an argument that is a transaction -/
theorem open_tx {r : Reach} {b0 : Nat} {v : Value} {d : DataW H} {p : List MemPlace} (hv : Value.okWide Try.prog w r b0 66 v) (h : DataW.Trod enc Try.prog w base spare held 66 v d p) :
    ∃ (s a n : Int) (A : Option Addr) (c : Nat) (l : List S86), v = .agg #[.int .i64 s, .int .i64 a, .int .u64 n, .slice A l.length c] ∧ 0 ≤ n ∧ n < 18446744073709551616 ∧ l.length ≤ c ∧ Kd.C k86 w A l.length l ∧ ∀ m ∈ l, okM m := by
  obtain ⟨v0, v1, v2, v3, y0, y1, y2, y3, n, rfl, _, _, h0, h1, h2, h3⟩ := open_agg4 Try.underlying66 (by kernel_rfl) (by kernel_rfl) hv h
  obtain ⟨a0, e0, _, _⟩ := DataW.trod_int Try.underlying3 h0
  obtain ⟨a1, e1, _, _⟩ := DataW.trod_int Try.underlying3 h1
  obtain ⟨a2, e2, _, k2⟩ := DataW.trod_int Try.underlying22 h2
  obtain ⟨A, c, l, rfl, hc, hC, ho⟩ := open_msgs h3
  simp only [List.cons.injEq, and_true] at e0 e1 e2
  subst e0 e1 e2
  exact ⟨a0, a1, a2, A, c, l, rfl, (u64_bound k2).1, (u64_bound k2).2, hc, hC, ho⟩
end
end Go.Proofs.Ytclpjmhanhocoaa.SubOpen
