/- packet.Name and the page's Name: a key's text. Conditions: as stated in each theorem. -/
import Derived.Test.YtoahfegeeimomaaDoorUint
set_option linter.unusedVariables false
set_option linter.unusedSimpArgs false
namespace Go.Proofs.YtoahfegeeimomaaDoor.Name
open Go.RowKit Base Go.Lib
set_option maxRecDepth 100000

def I (z : Int) : ByteArray := ⟨(Lib.itoa z).toArray⟩
def D (n : Nat) : ByteArray := ⟨(Lib.decDigits n).toArray⟩
def side (f : Int) : ByteArray := if f = 0 then ⟨#[97]⟩ else ⟨#[98]⟩
theorem D_size {n : Nat} (h : n < 18446744073709551616) : (D n).size ≤ 20 := by
  show (Lib.decDigits n).toArray.size ≤ 20
  rw [List.size_toArray, Lib.decDigits_length]
  exact Digits.nDigits_20 h
theorem I_size {z : Int} (h0 : -9223372036854775808 ≤ z) (h1 : z ≤ 9223372036854775807) : (I z).size ≤ 21 := by
  show (Lib.itoa z).toArray.size ≤ 21
  rw [List.size_toArray]
  unfold Lib.itoa
  split
  · have := Digits.nDigits_20 (n := z.natAbs) (by omega)
    rw [List.length_cons, Lib.decDigits_length]
    omega
  · have := Digits.nDigits_20 (n := z.toNat) (by omega)
    rw [Lib.decDigits_length]
    omega
theorem side_size (f : Int) : (side f).size = 1 := by unfold side; split <;> rfl
theorem intI (z : Int) (h0 : -9223372036854775808 ≤ z) (h1 : z ≤ 9223372036854775807) (w : World) (htab : Lib.TabIs Tryd.prog w "internal/strconv.uint64pow10" .u64 Lib.pow10Tab) :
    Calls Tryd.prog 18 #[.int .i64 z] w fun e w' => e = .returned (.string (I z)) ∧ Below w.heap.size w w' := Uint.int z h0 h1 w htab
theorem uintD (u : Nat) (hu : u < 18446744073709551616) (w : World) (htab : Lib.TabIs Tryd.prog w "internal/strconv.uint64pow10" .u64 Lib.pow10Tab) :
    Calls Tryd.prog 44 #[.int .u64 u, .int .i64 10] w fun e w' => e = .returned (.string (D u)) ∧ Below w.heap.size w w' := Uint.uint u hu w htab
theorem wholeI (z : Int) (h0 : -9223372036854775808 ≤ z) (h1 : z ≤ 9223372036854775807) (w : World) :
    Calls Tryd.prog 22 #[.int .i64 z] w fun e w' => e = .returned (.string (I z)) ∧ Below w.heap.size w w' := Digits.whole z h0 h1 w
theorem digitsD (u : Nat) (hu : u < 18446744073709551616) (w : World) :
    Calls Tryd.prog 25 #[.int .u64 u] w fun e w' => e = .returned (.string (D u)) ∧ Below w.heap.size w w' := Digits.digits u hu w
/-- the two cells that are read, and what is kept -/
theorem keep {w w0 w1 : World} {u v : Value} (h : w0.cell? ⟨w.heap.size, 0, none⟩ = some u ∧ w0.cell? ⟨w.heap.size, 2, none⟩ = some v ∧ Below w.heap.size w w0 ∧ w.heap.size < w0.heap.size) (hb : Below w0.heap.size w0 w1) :
    w1.cell? ⟨w.heap.size, 0, none⟩ = some u ∧ w1.cell? ⟨w.heap.size, 2, none⟩ = some v ∧ Below w.heap.size w w1 ∧ w.heap.size < w1.heap.size :=
  ⟨(hb.cell (p := ⟨w.heap.size, 0, none⟩) h.2.2.2).trans h.1, (hb.cell (p := ⟨w.heap.size, 2, none⟩) h.2.2.2).trans h.2.1, Base.bel h.2.2.1 hb h.2.2.1.size, by have := hb.size; omega⟩
theorem start {w : World} {c f : Int} {s : Nat} : ((w.alloc (.cells #[.int .i64 c, .int .i64 f, .int .u64 s] 24)).drew).cell? ⟨w.heap.size, 0, none⟩ = some (.int .i64 c) ∧ ((w.alloc (.cells #[.int .i64 c, .int .i64 f, .int .u64 s] 24)).drew).cell? ⟨w.heap.size, 2, none⟩ = some (.int .u64 s) ∧ Below w.heap.size w ((w.alloc (.cells #[.int .i64 c, .int .i64 f, .int .u64 s] 24)).drew) ∧ w.heap.size < ((w.alloc (.cells #[.int .i64 c, .int .i64 f, .int .u64 s] 24)).drew).heap.size := by
  have h : ∀ j, ((w.alloc (.cells #[.int .i64 c, .int .i64 f, .int .u64 s] 24)).drew).cell? ⟨w.heap.size, j, none⟩ = (#[.int .i64 c, .int .i64 f, .int .u64 s] : Array Value)[j]? := fun j => World.cell?_alloc_new w _ _ j
  refine ⟨(h 0).trans rfl, (h 2).trans rfl, ?_, ?_⟩
  · have := (Below.refl w.heap.size w).alloc (Nat.le_refl _) (.cells #[.int .i64 c, .int .i64 f, .int .u64 s] 24)
    exact ⟨this.os, this.tape, this.output, this.size, this.block⟩
  · show w.heap.size < (w.alloc _).heap.size
    simp
set_option maxHeartbeats 2000000 in
theorem name (c f : Int) (s : Nat) (hs : s < 18446744073709551616) (h0 : -9223372036854775808 ≤ c) (h1 : c ≤ 9223372036854775807) (w : World) (htab : ∀ w', Below w.heap.size w w' → Lib.TabIs Tryd.prog w' "internal/strconv.uint64pow10" .u64 Lib.pow10Tab) :
    Calls Tryd.prog 19 #[.agg #[.int .i64 c, .int .i64 f, .int .u64 s]] w fun e w' => e = .returned (.string (I c ++ side f ++ D s)) ∧ Below w.heap.size w w' := by
  have HT := Lib.hid htab
  have i1 := I_size h0 h1
  have i2 := D_size hs
  have a1 := fun (t : ByteArray) (ht : t.size = 1) w => run_string_add_sum (P := Tryd.prog) w (I c) t (by omega)
  have a2 := fun (t : ByteArray) (ht : t.size = 1) w => run_string_add_sum (P := Tryd.prog) w (I c ++ t) (D s) (by simp only [ByteArray.size_append]; omega)
  clear htab
  by_cases hf : f = 0
  · have hr : side f = ⟨#[97]⟩ := by simp [side, hf]
    have b1 := a1 ⟨#[97]⟩ rfl
    have b2 := a2 ⟨#[97]⟩ rfl
    rw [hr]
    clear a1 a2 hr i1 i2
    subst hf
    go_enter Tryd.func19, Tryd.ntmps19
    go_wp2_with fail
    go_region_held3 (fun w' => w'.cell? ⟨w.heap.size, 0, none⟩ = some (.int .i64 c) ∧ w'.cell? ⟨w.heap.size, 2, none⟩ = some (.int .u64 s) ∧ Below w.heap.size w w' ∧ w.heap.size < w'.heap.size)
      (first | exact start | exact keep (by assumption) hb)
      (first | (go_at_call 18; refine (intI c h0 h1 _ (HT.out _ (by assumption : _ ∧ _ ∧ _ ∧ _).2.2.1)).mono ?_; rintro e w1 ⟨rfl, hb⟩) | (go_at_call 44; refine (uintD s hs _ (HT.out _ (by assumption : _ ∧ _ ∧ _ ∧ _).2.2.1)).mono ?_; rintro e w1 ⟨rfl, hb⟩))
    go_wp2
    go_ret
    exact ⟨rfl, (by assumption : _ ∧ _ ∧ _ ∧ _).2.2.1⟩
  · have hr : side f = ⟨#[98]⟩ := by simp [side, hf]
    have hfb : (f == 0) = false := beq_eq_false_iff_ne.2 hf
    have b1 := a1 ⟨#[98]⟩ rfl
    have b2 := a2 ⟨#[98]⟩ rfl
    rw [hr]
    clear a1 a2 hr i1 i2 hf
    go_enter Tryd.func19, Tryd.ntmps19
    go_wp2_with fail
    go_region_held3 (fun w' => w'.cell? ⟨w.heap.size, 0, none⟩ = some (.int .i64 c) ∧ w'.cell? ⟨w.heap.size, 2, none⟩ = some (.int .u64 s) ∧ Below w.heap.size w w' ∧ w.heap.size < w'.heap.size)
      (first | exact start | exact keep (by assumption) hb)
      (first | (go_at_call 18; refine (intI c h0 h1 _ (HT.out _ (by assumption : _ ∧ _ ∧ _ ∧ _).2.2.1)).mono ?_; rintro e w1 ⟨rfl, hb⟩) | (go_at_call 44; refine (uintD s hs _ (HT.out _ (by assumption : _ ∧ _ ∧ _ ∧ _).2.2.1)).mono ?_; rintro e w1 ⟨rfl, hb⟩))
    go_wp2
    go_ret
    exact ⟨rfl, (by assumption : _ ∧ _ ∧ _ ∧ _).2.2.1⟩
set_option maxHeartbeats 2000000 in
theorem ref (c f : Int) (s : Nat) (hs : s < 18446744073709551616) (h0 : -9223372036854775808 ≤ c) (h1 : c ≤ 9223372036854775807) (w : World) :
    Calls Tryd.prog 23 #[.agg #[.int .i64 c, .int .i64 f, .int .u64 s]] w fun e w' => e = .returned (.string (I c ++ side f ++ D s)) ∧ Below w.heap.size w w' := by
  have i1 := I_size h0 h1
  have i2 := D_size hs
  have a1 := fun (t : ByteArray) (ht : t.size = 1) w => run_string_add_sum (P := Tryd.prog) w (I c) t (by omega)
  have a2 := fun (t : ByteArray) (ht : t.size = 1) w => run_string_add_sum (P := Tryd.prog) w (I c ++ t) (D s) (by simp only [ByteArray.size_append]; omega)
  by_cases hf : f = 0
  · have hr : side f = ⟨#[97]⟩ := by simp [side, hf]
    have b1 := a1 ⟨#[97]⟩ rfl
    have b2 := a2 ⟨#[97]⟩ rfl
    rw [hr]
    clear a1 a2 hr i1 i2
    subst hf
    go_enter Tryd.func23, Tryd.ntmps23
    go_wp2_with fail
    go_region_held3 (fun w' => w'.cell? ⟨w.heap.size, 0, none⟩ = some (.int .i64 c) ∧ w'.cell? ⟨w.heap.size, 2, none⟩ = some (.int .u64 s) ∧ Below w.heap.size w w' ∧ w.heap.size < w'.heap.size)
      (first | exact start | exact keep (by assumption) hb)
      (first | (go_at_call 22; refine (wholeI c h0 h1 _).mono ?_; rintro e w1 ⟨rfl, hb⟩) | (go_at_call 25; refine (digitsD s hs _).mono ?_; rintro e w1 ⟨rfl, hb⟩))
    go_wp2
    go_ret
    exact ⟨rfl, (by assumption : _ ∧ _ ∧ _ ∧ _).2.2.1⟩
  · have hr : side f = ⟨#[98]⟩ := by simp [side, hf]
    have hfb : (f == 0) = false := beq_eq_false_iff_ne.2 hf
    have b1 := a1 ⟨#[98]⟩ rfl
    have b2 := a2 ⟨#[98]⟩ rfl
    rw [hr]
    clear a1 a2 hr i1 i2 hf
    go_enter Tryd.func23, Tryd.ntmps23
    go_wp2_with fail
    go_region_held3 (fun w' => w'.cell? ⟨w.heap.size, 0, none⟩ = some (.int .i64 c) ∧ w'.cell? ⟨w.heap.size, 2, none⟩ = some (.int .u64 s) ∧ Below w.heap.size w w' ∧ w.heap.size < w'.heap.size)
      (first | exact start | exact keep (by assumption) hb)
      (first | (go_at_call 22; refine (wholeI c h0 h1 _).mono ?_; rintro e w1 ⟨rfl, hb⟩) | (go_at_call 25; refine (digitsD s hs _).mono ?_; rintro e w1 ⟨rfl, hb⟩))
    go_wp2
    go_ret
    exact ⟨rfl, (by assumption : _ ∧ _ ∧ _ ∧ _).2.2.1⟩
end Go.Proofs.YtoahfegeeimomaaDoor.Name
