/- The walk of muleteerlaw03.PacketApart, case by case. Conditions: as stated in each theorem. -/
import Derived.Test.YtclpjmhanhocoaaPacketPlain
set_option linter.unusedVariables false
set_option linter.unusedSimpArgs false
namespace Go.Proofs.Ytclpjmhanhocoaa.Digit
open Go.RowKit
set_option maxRecDepth 100000

theorem eqf_one {P : Program} {d : Nat} {xs ys : Array Value} {f : Field} {a b : Value} {r : Bool} {w : World} (hn : (f.name == "_") = false) (ha : (part f.type xs f.offset).run P w = .ok a w) (hb : (part f.type ys f.offset).run P w = .ok b w) (he : (Op.equalIn d f.type a b).run P w = .ok r w) : (Op.eqFields d xs ys [f]).run P w = .ok r w := by
  have hn' : f.name ≠ "_" := by simpa using hn
  simp only [Op.eqFields, if_pos hn', Sem.run_bind, ha, hb, he, Result.andThen_ok]
  cases r <;> simp
theorem eqf_more {P : Program} {d : Nat} {xs ys : Array Value} {f : Field} {fs : List Field} {a b : Value} {r s : Bool} {w : World} (hn : (f.name == "_") = false) (ha : (part f.type xs f.offset).run P w = .ok a w) (hb : (part f.type ys f.offset).run P w = .ok b w) (he : (Op.equalIn d f.type a b).run P w = .ok r w) (hr : (Op.eqFields d xs ys fs).run P w = .ok s w) : (Op.eqFields d xs ys (f :: fs)).run P w = .ok (r && s) w := by
  have hn' : f.name ≠ "_" := by simpa using hn
  rw [Op.eqFields]
  simp only [if_pos hn', Sem.run_bind, ha, hb, he, Result.andThen_ok]
  cases r
  · simp
  · simpa using hr
theorem eq_struct {P : Program} {d : Nat} {xs ys : Array Value} {r : Bool} {w : World} {t : TypeId} {fs : Array Field} (hu : P.underlying t = some (.struct fs)) (hp : P.stoodInHeld t = false) (h : (Op.eqFields d xs ys fs.toList).run P w = .ok r w) : (Op.equalIn (d + 1) t (.agg xs) (.agg ys)).run P w = .ok r w := by
  have hf : P.fieldsOf t = fs := by simp [Program.fieldsOf, hu]
  rw [run_equalIn_struct (P := P) w d t xs ys (by rw [hf]; exact hu) hp, hf]
  exact h
theorem eqA24 (d : Nat) (w : World) (x0 y0 : Int) (x1 y1 : Int) (x2 y2 : Int) (x3 y3 : Int) (x4 y4 : ByteArray) :
    (Op.equalIn (d + 2) 24 (.agg #[.int .i64 x0, .int .i64 x1, .int .u64 x2, .int .u64 x3, .string x4]) (.agg #[.int .i64 y0, .int .i64 y1, .int .u64 y2, .int .u64 y3, .string y4])).run Try.prog w = .ok (x0 == y0 && (x1 == y1 && (x2 == y2 && (x3 == y3 && (x4.toList == y4.toList))))) w := by
  refine eq_struct Try.underlying24 (by kernel_rfl) ?_
  refine eqf_more (by rfl) (by go_simp; rfl) (by go_simp; rfl) (by go_simp) ?_
  refine eqf_more (by rfl) (by go_simp; rfl) (by go_simp; rfl) (by go_simp) ?_
  refine eqf_more (by rfl) (by go_simp; rfl) (by go_simp; rfl) (by go_simp) ?_
  refine eqf_more (by rfl) (by go_simp; rfl) (by go_simp; rfl) (by go_simp) ?_
  exact eqf_one (by rfl) (by go_simp; rfl) (by go_simp; rfl) (by go_simp)

theorem put_E (c f s t : Int) (d : ByteArray) (w : World) (hr : rightP c f d = true) (h0 : 0 ≤ s) (hs : s < 18446744073709551616) (h1 : 0 ≤ t) (ht : t < 18446744073709551616) :
    Calls Try.prog 11 #[.agg #[.int .i64 c, .int .i64 f, .int .u64 s, .int .u64 t, .string d]] w fun e w' => e = .returned (.tuple #[.string (E c.toNat f.toNat s.toNat t.toNat d), .int .i64 0]) ∧ Below w.heap.size w w' := by
  simp [rightP] at hr
  obtain ⟨c, rfl⟩ := Int.eq_ofNat_of_zero_le (show 0 ≤ c by omega)
  obtain ⟨f, rfl⟩ := Int.eq_ofNat_of_zero_le (show 0 ≤ f by omega)
  obtain ⟨s, rfl⟩ := Int.eq_ofNat_of_zero_le h0
  obtain ⟨t, rfl⟩ := Int.eq_ofNat_of_zero_le h1
  exact put_ok c f s t d w (by omega) (by omega) (by omega) (by omega) (by omega)

theorem bel {B : Nat} {a b c : World} (h : Below B a b) (hb : Below b.heap.size b c) (hs : B ≤ b.heap.size) : Below B a c := h.trans (hb.mono hs)

set_option maxHeartbeats 1000000 in
theorem apart_long (c f s t : Int) (d : ByteArray) (c' f' s' t' : Int) (d' : ByteArray) (w : World) (h : 300 < (d.size : Int) ∨ (¬ 300 < (d.size : Int) ∧ 300 < (d'.size : Int))) :
    Calls Try.prog 3 #[.agg #[.int .i64 c, .int .i64 f, .int .u64 s, .int .u64 t, .string d], .agg #[.int .i64 c', .int .i64 f', .int .u64 s', .int .u64 t', .string d']] w fun e w' => e = .returned (.bool true) ∧ Below w.heap.size w w' := by
  rcases h with h | ⟨h, h2⟩
  all_goals
    go_enter Try.func3, Try.ntmps3
    go_wp2_with fail
    refine (awake _).mono ?_
    rintro e w1 ⟨rfl, hb1⟩
    go_wp2
    go_ret
    exact ⟨rfl, bel (((Below.refl _ _).alloc (Nat.le_refl _) _).alloc (by simp) _) hb1 (by simp; omega)⟩

set_option maxHeartbeats 1000000 in
theorem apart_nn (c f s t : Int) (d : ByteArray) (c' f' s' t' : Int) (d' : ByteArray) (w : World) (h : ¬ 300 < (d.size : Int)) (h2 : ¬ 300 < (d'.size : Int)) (hr : rightP c f d = false) (hr2 : rightP c' f' d' = false)   :
    Calls Try.prog 3 #[.agg #[.int .i64 c, .int .i64 f, .int .u64 s, .int .u64 t, .string d], .agg #[.int .i64 c', .int .i64 f', .int .u64 s', .int .u64 t', .string d']] w fun e w' => e = .returned (.bool true) ∧ Below w.heap.size w w' := by
  have HR := Lib.hid hr
  have HR2 := Lib.hid hr2
  clear hr hr2
  go_enter Try.func3, Try.ntmps3
  go_wp2_with fail
  refine (put_no _ _ _ _ _ _ HR.out).mono ?_
  rintro e w1 ⟨rfl, hb1⟩
  obtain ⟨hcl, hfr⟩ := bcell hb1
  go_wp2_with fail
  refine (put_no _ _ _ _ _ _ HR2.out).mono ?_
  rintro e w2 ⟨rfl, hb2⟩
  go_wp2_with fail
  refine (awake _).mono ?_
  rintro e w3 ⟨rfl, hb3⟩
  go_wp2
  go_ret
  exact ⟨rfl, bel (bel (bel (((Below.refl _ _).alloc (Nat.le_refl _) _).alloc (by simp) _) hb1 (by simp; omega)) hb2 (by have := hb1.size; simp at this; omega)) hb3 (by have a1 := hb1.size; have a2 := hb2.size; simp at a1; omega)⟩

set_option maxHeartbeats 1000000 in
theorem apart_ny (c f s t : Int) (d : ByteArray) (c' f' s' t' : Int) (d' : ByteArray) (w : World) (h : ¬ 300 < (d.size : Int)) (h2 : ¬ 300 < (d'.size : Int)) (hr : rightP c f d = false) (hr2 : rightP c' f' d' = true)  (hs0' : 0 ≤ s') (hs' : s' < 18446744073709551616) (ht0' : 0 ≤ t') (ht' : t' < 18446744073709551616) :
    Calls Try.prog 3 #[.agg #[.int .i64 c, .int .i64 f, .int .u64 s, .int .u64 t, .string d], .agg #[.int .i64 c', .int .i64 f', .int .u64 s', .int .u64 t', .string d']] w fun e w' => e = .returned (.bool true) ∧ Below w.heap.size w w' := by
  have HR := Lib.hid hr
  have HR2 := Lib.hid hr2
  clear hr hr2
  have HB2 := Lib.hid (And.intro hs0' (And.intro hs' (And.intro ht0' ht')))
  clear hs0' hs' ht0' ht'
  go_enter Try.func3, Try.ntmps3
  go_wp2_with fail
  refine (put_no _ _ _ _ _ _ HR.out).mono ?_
  rintro e w1 ⟨rfl, hb1⟩
  obtain ⟨hcl, hfr⟩ := bcell hb1
  go_wp2_with fail
  refine (put_E _ _ _ _ _ _ HR2.out HB2.out.1 HB2.out.2.1 HB2.out.2.2.1 HB2.out.2.2.2).mono ?_
  rintro e w2 ⟨rfl, hb2⟩
  go_wp2_with fail
  refine (awake _).mono ?_
  rintro e w3 ⟨rfl, hb3⟩
  go_wp2
  go_ret
  exact ⟨rfl, bel (bel (bel (((Below.refl _ _).alloc (Nat.le_refl _) _).alloc (by simp) _) hb1 (by simp; omega)) hb2 (by have := hb1.size; simp at this; omega)) hb3 (by have a1 := hb1.size; have a2 := hb2.size; simp at a1; omega)⟩

set_option maxHeartbeats 1000000 in
theorem apart_yn (c f s t : Int) (d : ByteArray) (c' f' s' t' : Int) (d' : ByteArray) (w : World) (h : ¬ 300 < (d.size : Int)) (h2 : ¬ 300 < (d'.size : Int)) (hr : rightP c f d = true) (hr2 : rightP c' f' d' = false) (hs0 : 0 ≤ s) (hs : s < 18446744073709551616) (ht0 : 0 ≤ t) (ht : t < 18446744073709551616)  :
    Calls Try.prog 3 #[.agg #[.int .i64 c, .int .i64 f, .int .u64 s, .int .u64 t, .string d], .agg #[.int .i64 c', .int .i64 f', .int .u64 s', .int .u64 t', .string d']] w fun e w' => e = .returned (.bool true) ∧ Below w.heap.size w w' := by
  have HR := Lib.hid hr
  have HR2 := Lib.hid hr2
  clear hr hr2
  have HB := Lib.hid (And.intro hs0 (And.intro hs (And.intro ht0 ht)))
  clear hs0 hs ht0 ht
  go_enter Try.func3, Try.ntmps3
  go_wp2_with fail
  refine (put_E _ _ _ _ _ _ HR.out HB.out.1 HB.out.2.1 HB.out.2.2.1 HB.out.2.2.2).mono ?_
  rintro e w1 ⟨rfl, hb1⟩
  obtain ⟨hcl, hfr⟩ := bcell hb1
  go_wp2_with fail
  refine (put_no _ _ _ _ _ _ HR2.out).mono ?_
  rintro e w2 ⟨rfl, hb2⟩
  go_wp2_with fail
  refine (awake _).mono ?_
  rintro e w3 ⟨rfl, hb3⟩
  go_wp2
  go_ret
  exact ⟨rfl, bel (bel (bel (((Below.refl _ _).alloc (Nat.le_refl _) _).alloc (by simp) _) hb1 (by simp; omega)) hb2 (by have := hb1.size; simp at this; omega)) hb3 (by have a1 := hb1.size; have a2 := hb2.size; simp at a1; omega)⟩

set_option maxHeartbeats 2000000 in
theorem apart_yy (c f s t : Int) (d : ByteArray) (c' f' s' t' : Int) (d' : ByteArray) (w : World) (h : ¬ 300 < (d.size : Int)) (h2 : ¬ 300 < (d'.size : Int)) (S T : ByteArray) (q : Bool)
    (hp : ∀ w, Calls Try.prog 11 #[.agg #[.int .i64 c, .int .i64 f, .int .u64 s, .int .u64 t, .string d]] w fun e w' => e = .returned (.tuple #[.string S, .int .i64 0]) ∧ Below w.heap.size w w')
    (hp2 : ∀ w, Calls Try.prog 11 #[.agg #[.int .i64 c', .int .i64 f', .int .u64 s', .int .u64 t', .string d']] w fun e w' => e = .returned (.tuple #[.string T, .int .i64 0]) ∧ Below w.heap.size w w')
    (hq : (c == c' && (f == f' && (s == s' && (t == t' && (d.toList == d'.toList))))) = q) (hst : (S.toList == T.toList) = q) (hst2 : (T.toList == S.toList) = q)
    (hgt : ¬ (T.size : Int) < (S.size : Int)) (hx : q = false → (!((T.extract 0 S.size).toList == S.toList)) = true) :
    Calls Try.prog 3 #[.agg #[.int .i64 c, .int .i64 f, .int .u64 s, .int .u64 t, .string d], .agg #[.int .i64 c', .int .i64 f', .int .u64 s', .int .u64 t', .string d']] w fun e w' => e = .returned (.bool true) ∧ Below w.heap.size w w' := by
  have HP := Lib.hid hp
  have HP2 := Lib.hid hp2
  clear hp hp2
  have heq : ∀ (k : Nat) (w : World), (Op.equalIn (k + 2) 24 (.agg #[.int .i64 c, .int .i64 f, .int .u64 s, .int .u64 t, .string d]) (.agg #[.int .i64 c', .int .i64 f', .int .u64 s', .int .u64 t', .string d'])).run Try.prog w = .ok q w := fun k w => by rw [eqA24, hq]
  clear hq
  cases q
  · have hx := hx rfl
    go_enter Try.func3, Try.ntmps3
    go_wp2_with fail
    refine (HP.out _).mono ?_
    rintro e w1 ⟨rfl, hb1⟩
    obtain ⟨hcl, hfr⟩ := bcell hb1
    go_wp2_with fail
    refine (HP2.out _).mono ?_
    rintro e w2 ⟨rfl, hb2⟩
    obtain ⟨hcl2, hfr2⟩ := bcell hb2
    have hz := hb1.size
    simp at hz
    go_wp2_with fail
    refine (awake _).mono ?_
    rintro e w3 ⟨rfl, hb3⟩
    obtain ⟨hcl3, hfr3⟩ := bcell hb3
    have hz2 := hb2.size
    have k1 : w.heap.size < w1.heap.size := by omega
    have k2 : w.heap.size + 1 < w1.heap.size := by omega
    have k3 : w.heap.size < w2.heap.size := by omega
    have k4 : w.heap.size + 1 < w2.heap.size := by omega
    go_wp2
    go_ret
    exact ⟨rfl, bel (bel (bel (((Below.refl _ _).alloc (Nat.le_refl _) _).alloc (by simp) _) hb1 (by simp; omega)) hb2 (by omega)) hb3 (by omega)⟩
  · clear hx
    go_enter Try.func3, Try.ntmps3
    go_wp2_with fail
    refine (HP.out _).mono ?_
    rintro e w1 ⟨rfl, hb1⟩
    obtain ⟨hcl, hfr⟩ := bcell hb1
    go_wp2_with fail
    refine (HP2.out _).mono ?_
    rintro e w2 ⟨rfl, hb2⟩
    obtain ⟨hcl2, hfr2⟩ := bcell hb2
    have hz := hb1.size
    simp at hz
    go_wp2_with fail
    refine (awake _).mono ?_
    rintro e w3 ⟨rfl, hb3⟩
    obtain ⟨hcl3, hfr3⟩ := bcell hb3
    have hz2 := hb2.size
    have k1 : w.heap.size < w1.heap.size := by omega
    have k2 : w.heap.size + 1 < w1.heap.size := by omega
    have k3 : w.heap.size < w2.heap.size := by omega
    have k4 : w.heap.size + 1 < w2.heap.size := by omega
    go_wp2
    go_ret
    exact ⟨rfl, bel (bel (bel (((Below.refl _ _).alloc (Nat.le_refl _) _).alloc (by simp) _) hb1 (by simp; omega)) hb2 (by omega)) hb3 (by omega)⟩
set_option maxHeartbeats 2000000 in
theorem apart_yy2 (c f s t : Int) (d : ByteArray) (c' f' s' t' : Int) (d' : ByteArray) (w : World) (h : ¬ 300 < (d.size : Int)) (h2 : ¬ 300 < (d'.size : Int)) (S T : ByteArray) (q : Bool)
    (hp : ∀ w, Calls Try.prog 11 #[.agg #[.int .i64 c, .int .i64 f, .int .u64 s, .int .u64 t, .string d]] w fun e w' => e = .returned (.tuple #[.string S, .int .i64 0]) ∧ Below w.heap.size w w')
    (hp2 : ∀ w, Calls Try.prog 11 #[.agg #[.int .i64 c', .int .i64 f', .int .u64 s', .int .u64 t', .string d']] w fun e w' => e = .returned (.tuple #[.string T, .int .i64 0]) ∧ Below w.heap.size w w')
    (hq : (c == c' && (f == f' && (s == s' && (t == t' && (d.toList == d'.toList))))) = q) (hst : (S.toList == T.toList) = q) (hst2 : (T.toList == S.toList) = q)
    (hgt : (T.size : Int) < (S.size : Int)) (hx : q = false → (!((S.extract 0 T.size).toList == T.toList)) = true) :
    Calls Try.prog 3 #[.agg #[.int .i64 c, .int .i64 f, .int .u64 s, .int .u64 t, .string d], .agg #[.int .i64 c', .int .i64 f', .int .u64 s', .int .u64 t', .string d']] w fun e w' => e = .returned (.bool true) ∧ Below w.heap.size w w' := by
  have HP := Lib.hid hp
  have HP2 := Lib.hid hp2
  clear hp hp2
  have heq : ∀ (k : Nat) (w : World), (Op.equalIn (k + 2) 24 (.agg #[.int .i64 c, .int .i64 f, .int .u64 s, .int .u64 t, .string d]) (.agg #[.int .i64 c', .int .i64 f', .int .u64 s', .int .u64 t', .string d'])).run Try.prog w = .ok q w := fun k w => by rw [eqA24, hq]
  clear hq
  cases q
  · have hx := hx rfl
    go_enter Try.func3, Try.ntmps3
    go_wp2_with fail
    refine (HP.out _).mono ?_
    rintro e w1 ⟨rfl, hb1⟩
    obtain ⟨hcl, hfr⟩ := bcell hb1
    go_wp2_with fail
    refine (HP2.out _).mono ?_
    rintro e w2 ⟨rfl, hb2⟩
    obtain ⟨hcl2, hfr2⟩ := bcell hb2
    have hz := hb1.size
    simp at hz
    go_wp2_with fail
    refine (awake _).mono ?_
    rintro e w3 ⟨rfl, hb3⟩
    obtain ⟨hcl3, hfr3⟩ := bcell hb3
    have hz2 := hb2.size
    have k1 : w.heap.size < w1.heap.size := by omega
    have k2 : w.heap.size + 1 < w1.heap.size := by omega
    have k3 : w.heap.size < w2.heap.size := by omega
    have k4 : w.heap.size + 1 < w2.heap.size := by omega
    go_wp2
    go_ret
    exact ⟨rfl, bel (bel (bel (((Below.refl _ _).alloc (Nat.le_refl _) _).alloc (by simp) _) hb1 (by simp; omega)) hb2 (by omega)) hb3 (by omega)⟩
  · clear hx
    go_enter Try.func3, Try.ntmps3
    go_wp2_with fail
    refine (HP.out _).mono ?_
    rintro e w1 ⟨rfl, hb1⟩
    obtain ⟨hcl, hfr⟩ := bcell hb1
    go_wp2_with fail
    refine (HP2.out _).mono ?_
    rintro e w2 ⟨rfl, hb2⟩
    obtain ⟨hcl2, hfr2⟩ := bcell hb2
    have hz := hb1.size
    simp at hz
    go_wp2_with fail
    refine (awake _).mono ?_
    rintro e w3 ⟨rfl, hb3⟩
    obtain ⟨hcl3, hfr3⟩ := bcell hb3
    have hz2 := hb2.size
    have k1 : w.heap.size < w1.heap.size := by omega
    have k2 : w.heap.size + 1 < w1.heap.size := by omega
    have k3 : w.heap.size < w2.heap.size := by omega
    have k4 : w.heap.size + 1 < w2.heap.size := by omega
    go_wp2
    go_ret
    exact ⟨rfl, bel (bel (bel (((Below.refl _ _).alloc (Nat.le_refl _) _).alloc (by simp) _) hb1 (by simp; omega)) hb2 (by omega)) hb3 (by omega)⟩
end Go.Proofs.Ytclpjmhanhocoaa.Digit
