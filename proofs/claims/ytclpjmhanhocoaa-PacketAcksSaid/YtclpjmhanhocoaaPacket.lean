/- The walks of digit.Text, packet.Right, packet.bytes, packet.Put and the page's example. Conditions: as stated in each theorem. -/
import Derived.Test.YtclpjmhanhocoaaDigit
import Derived.Deep.RegionHeld3
set_option linter.unusedVariables false
set_option linter.unusedSimpArgs false
namespace Go.Proofs.Ytclpjmhanhocoaa.Digit
open Go.RowKit
set_option maxRecDepth 100000

def N (n : Nat) : ByteArray := strOfNums (numI n)
theorem be_le : ∀ (k n : Nat), n < 256 ^ k → (be n).length ≤ k := by
  intro k
  induction k with
  | zero => intro n h; simp at h; subst h; rw [be_zero]; simp
  | succ k ih =>
    intro n h
    by_cases e : n = 0
    · subst e; rw [be_zero]; simp
    · rw [be_pos e, List.length_append]
      have := ih (n / 256) (by rw [Nat.pow_succ] at h; omega)
      simp
      omega
theorem N_size (n : Nat) : (N n).size = (be n).length + 1 := by unfold N; rw [strOfNums_size]; simp [numI]
theorem N_le (n : Nat) (h : n < 18446744073709551616) : (N n).size ≤ 9 := by
  rw [N_size]; have := be_le 8 n h; omega
theorem num_nat (n : Nat) (w : World) (hn : n < 18446744073709551616) :
    Calls Try.prog 55 #[.int .u64 n] w fun e w' => e = .returned (.string (N n)) ∧ Below w.heap.size w w' := num n w hn

theorem num_int (n : Int) (w : World) (h0 : 0 ≤ n) (hn : n ≤ 18446744073709551615) :
    Calls Try.prog 55 #[.int .u64 n] w fun e w' => e = .returned (.string (N n.toNat)) ∧ Below w.heap.size w w' := by
  obtain ⟨m, rfl⟩ := Int.eq_ofNat_of_zero_le h0
  exact num m w (by omega)

set_option maxHeartbeats 1000000 in
theorem text (s : ByteArray) (w : World) (hs : s.size ≤ 140737488351232) :
    Calls Try.prog 61 #[.string s] w fun e w' => e = .returned (.string (N s.size ++ s)) ∧ Below w.heap.size w w' := by
  have hN := N_le s.size (by omega)
  go_enter Try.func61, Try.ntmps61
  go_wp2_with (go_at_call 55; refine (num_nat _ _ (by omega)).mono ?_; rintro e w1 ⟨rfl, hb⟩)
  go_ret
  exact ⟨rfl, by assumption⟩

/-- a packet -/
structure Pk where
  c : Int
  f : Int
  s : Int
  t : Int
  d : ByteArray
def Pk.val (p : Pk) : Value := .agg #[.int .i64 p.c, .int .i64 p.f, .int .u64 p.s, .int .u64 p.t, .string p.d]
def Pk.cells (p : Pk) : Array Value := #[.int .i64 p.c, .int .i64 p.f, .int .u64 p.s, .int .u64 p.t, .string p.d]
def rightP (c f : Int) (d : ByteArray) : Bool := decide (0 ≤ c) && decide (c < 4) && (decide (f = 0) || decide (f = 1)) && decide (d.size ≤ 64)

set_option maxHeartbeats 1000000 in
theorem right (c f s t : Int) (d : ByteArray) (w : World) :
    Calls Try.prog 45 #[.agg #[.int .i64 c, .int .i64 f, .int .u64 s, .int .u64 t, .string d]] w fun e w' => e = .returned (.bool (rightP c f d)) ∧ Below w.heap.size w w' := by
  have HR := Lib.hid (show rightP c f d = rightP c f d from rfl)
  generalize h : rightP c f d = r at HR ⊢
  have H := Lib.hid h
  clear h HR
  go_enter Try.func45, Try.ntmps45
  go_wp2
  all_goals go_ret
  all_goals refine ⟨?_, (Below.refl _ _).alloc (Nat.le_refl _) _⟩
  all_goals rw [← H.out]
  all_goals simp [rightP, *]
  all_goals omega

theorem keep5 {b : Nat} {w w1 w2 : World} {v0 v1 v2 v3 v4 : Value} (h : w1.cell? ⟨b, 0, none⟩ = some v0 ∧ w1.cell? ⟨b, 1, none⟩ = some v1 ∧ w1.cell? ⟨b, 2, none⟩ = some v2 ∧ w1.cell? ⟨b, 3, none⟩ = some v3 ∧ w1.cell? ⟨b, 4, none⟩ = some v4 ∧ Below b w w1 ∧ b < w1.heap.size)
    (hb : Below w1.heap.size w1 w2) : w2.cell? ⟨b, 0, none⟩ = some v0 ∧ w2.cell? ⟨b, 1, none⟩ = some v1 ∧ w2.cell? ⟨b, 2, none⟩ = some v2 ∧ w2.cell? ⟨b, 3, none⟩ = some v3 ∧ w2.cell? ⟨b, 4, none⟩ = some v4 ∧ Below b w w2 ∧ b < w2.heap.size := by
  obtain ⟨a0, a1, a2, a3, a4, hB, hs⟩ := h
  have := hb.size
  exact ⟨(hb.cell (p := ⟨b, 0, none⟩) hs).trans a0, (hb.cell (p := ⟨b, 1, none⟩) hs).trans a1, (hb.cell (p := ⟨b, 2, none⟩) hs).trans a2, (hb.cell (p := ⟨b, 3, none⟩) hs).trans a3, (hb.cell (p := ⟨b, 4, none⟩) hs).trans a4, hB.trans (hb.mono (by omega)), by omega⟩
theorem keep5_drew {b : Nat} {w w1 : World} {v0 v1 v2 v3 v4 : Value} (h : w1.cell? ⟨b, 0, none⟩ = some v0 ∧ w1.cell? ⟨b, 1, none⟩ = some v1 ∧ w1.cell? ⟨b, 2, none⟩ = some v2 ∧ w1.cell? ⟨b, 3, none⟩ = some v3 ∧ w1.cell? ⟨b, 4, none⟩ = some v4 ∧ Below b w w1 ∧ b < w1.heap.size) :
    w1.drew.cell? ⟨b, 0, none⟩ = some v0 ∧ w1.drew.cell? ⟨b, 1, none⟩ = some v1 ∧ w1.drew.cell? ⟨b, 2, none⟩ = some v2 ∧ w1.drew.cell? ⟨b, 3, none⟩ = some v3 ∧ w1.drew.cell? ⟨b, 4, none⟩ = some v4 ∧ Below b w w1.drew ∧ b < w1.drew.heap.size :=
  keep5 h (Below.refl _ _).drew
theorem keep5_start {w : World} {v0 v1 v2 v3 v4 : Value} {T : Nat} : (w.alloc (.cells #[v0, v1, v2, v3, v4] T)).drew.cell? ⟨w.heap.size, 0, none⟩ = some v0 ∧ (w.alloc (.cells #[v0, v1, v2, v3, v4] T)).drew.cell? ⟨w.heap.size, 1, none⟩ = some v1 ∧ (w.alloc (.cells #[v0, v1, v2, v3, v4] T)).drew.cell? ⟨w.heap.size, 2, none⟩ = some v2 ∧ (w.alloc (.cells #[v0, v1, v2, v3, v4] T)).drew.cell? ⟨w.heap.size, 3, none⟩ = some v3 ∧ (w.alloc (.cells #[v0, v1, v2, v3, v4] T)).drew.cell? ⟨w.heap.size, 4, none⟩ = some v4 ∧ Below w.heap.size w (w.alloc (.cells #[v0, v1, v2, v3, v4] T)).drew ∧ w.heap.size < (w.alloc (.cells #[v0, v1, v2, v3, v4] T)).drew.heap.size :=
  keep5_drew ⟨by simp [World.cell?, World.alloc, -World.alloc_eq], by simp [World.cell?, World.alloc, -World.alloc_eq], by simp [World.cell?, World.alloc, -World.alloc_eq], by simp [World.cell?, World.alloc, -World.alloc_eq], by simp [World.cell?, World.alloc, -World.alloc_eq], (Below.refl _ _).alloc (Nat.le_refl _) _, by simp⟩

theorem u64_in (n : Int) (h : 0 ≤ n) (h2 : n < 18446744073709551616) : IntKind.u64.wrap n = n := by
  simp [IntKind.wrap, IntKind.bits, IntKind.signed]
  omega
set_option maxHeartbeats 4000000 in
theorem bytes (c f s t : Nat) (d : ByteArray) (w : World) (hc : c < 4) (hf : f < 2) (hs : s < 18446744073709551616) (ht : t < 18446744073709551616) (hd : d.size ≤ 64) :
    Calls Try.prog 46 #[.agg #[.int .i64 c, .int .i64 f, .int .u64 s, .int .u64 t, .string d]] w fun e w' => e = .returned (.string (N c ++ N f ++ N s ++ N t ++ (N d.size ++ d))) ∧ Below w.heap.size w w' := by
  have h1 := N_le c (by omega)
  have h2 := N_le f (by omega)
  have h3 := N_le s (by omega)
  have h4 := N_le t (by omega)
  have h5 := N_le d.size (by omega)
  have w1 : IntKind.u64.wrap (c : Int) = c := u64_in _ (by omega) (by omega)
  have w2 : IntKind.u64.wrap (f : Int) = f := u64_in _ (by omega) (by omega)
  have a1 := fun w => run_string_add_sum (P := Try.prog) w (N c) (N f) (by omega)
  have a2 := fun w => run_string_add_sum (P := Try.prog) w (N c ++ N f) (N s) (by simp only [ByteArray.size_append]; omega)
  have a3 := fun w => run_string_add_sum (P := Try.prog) w (N c ++ N f ++ N s) (N t) (by simp only [ByteArray.size_append]; omega)
  have a4 := fun w => run_string_add_sum (P := Try.prog) w (N c ++ N f ++ N s ++ N t) (N d.size ++ d) (by simp only [ByteArray.size_append]; omega)
  go_enter Try.func46, Try.ntmps46
  go_wp2_with fail
  go_region_held3 (fun w' => w'.cell? ⟨w.heap.size, 0, none⟩ = some (.int .i64 c) ∧ w'.cell? ⟨w.heap.size, 1, none⟩ = some (.int .i64 f) ∧ w'.cell? ⟨w.heap.size, 2, none⟩ = some (.int .u64 s) ∧ w'.cell? ⟨w.heap.size, 3, none⟩ = some (.int .u64 t) ∧ w'.cell? ⟨w.heap.size, 4, none⟩ = some (.string d) ∧ Below w.heap.size w w' ∧ w.heap.size < w'.heap.size)
    (first | exact keep5_start | exact keep5 (by assumption) (by assumption) | exact keep5_drew (by assumption) | go_keep)
    (first | (go_at_call 55; refine (num_nat _ _ (by omega)).mono ?_; rintro e w1 ⟨rfl, hb⟩) | (go_at_call 61; refine (text _ _ (by omega)).mono ?_; rintro e w1 ⟨rfl, hb⟩))
  go_wp2
  go_ret
  exact ⟨rfl, (by assumption : _ ∧ _ ∧ _ ∧ _ ∧ _ ∧ _ ∧ _).2.2.2.2.2.1⟩

theorem bcell {W w1 : World} (hb : Below W.heap.size W w1) : (∀ b o, b < W.heap.size → w1.cell? ⟨b, o, none⟩ = W.cell? ⟨b, o, none⟩) ∧ (∀ b o, b < W.heap.size → w1.frozen? ⟨b, o, none⟩ = W.frozen? ⟨b, o, none⟩) :=
  ⟨fun b o h => hb.cell (p := ⟨b, o, none⟩) h, fun b o h => hb.frozen (p := ⟨b, o, none⟩) h⟩

theorem put_ok (c f s t : Nat) (d : ByteArray) (w : World) (hc : c < 4) (hf : f < 2) (hs : s < 18446744073709551616) (ht : t < 18446744073709551616) (hd : d.size ≤ 64) :
    Calls Try.prog 11 #[.agg #[.int .i64 c, .int .i64 f, .int .u64 s, .int .u64 t, .string d]] w fun e w' => e = .returned (.tuple #[.string (N c ++ N f ++ N s ++ N t ++ (N d.size ++ d)), .int .i64 0]) ∧ Below w.heap.size w w' := by
  have hr : rightP c f d = true := by simp [rightP]; omega
  have HR := Lib.hid hr
  clear hr
  go_enter Try.func11, Try.ntmps11
  go_wp2_with fail
  refine (right _ _ _ _ _ _).mono ?_
  rintro e w1 ⟨rfl, hb1⟩
  rw [HR.out]
  obtain ⟨hcl, hfr⟩ := bcell hb1
  go_wp2_with fail
  refine (bytes _ _ _ _ _ _ hc hf hs ht hd).mono ?_
  rintro e w2 ⟨rfl, hb2⟩
  go_wp2
  go_ret2
  exact ⟨rfl, (((Below.refl _ _).alloc (Nat.le_refl _) _).trans (hb1.mono (by simp))).trans (hb2.mono (by have := hb1.size; simp at this; omega))⟩

theorem put_no (c f s t : Int) (d : ByteArray) (w : World) (hr : rightP c f d = false) :
    Calls Try.prog 11 #[.agg #[.int .i64 c, .int .i64 f, .int .u64 s, .int .u64 t, .string d]] w fun e w' => e = .returned (.tuple #[.string ⟨#[]⟩, .int .i64 1]) ∧ Below w.heap.size w w' := by
  have HR := Lib.hid hr
  clear hr
  go_enter Try.func11, Try.ntmps11
  go_wp2_with fail
  refine (right _ _ _ _ _ _).mono ?_
  rintro e w1 ⟨rfl, hb1⟩
  rw [HR.out]
  obtain ⟨hcl, hfr⟩ := bcell hb1
  go_wp2
  go_ret2
  exact ⟨rfl, (((Below.refl _ _).alloc (Nat.le_refl _) _).trans (hb1.mono (by simp)))⟩

/-- the page's example -/
theorem awake (w : World) : Calls Try.prog 10 #[] w fun e w' => e = .returned (.bool true) ∧ Below w.heap.size w w' := by
  have hS : N 1 ++ N 0 ++ N 2 ++ N 0 ++ (N (ByteArray.mk #[120]).size ++ ByteArray.mk #[120]) = ByteArray.mk #[1, 1, 0, 1, 2, 0, 1, 1, 120] := by
    decide +kernel
  have HS := Lib.hid hS
  clear hS
  go_enter Try.func10, Try.ntmps10
  go_wp2_with fail
  refine (put_ok 1 0 2 0 _ _ (by omega) (by omega) (by omega) (by omega) (by decide)).mono ?_
  rintro e w1 ⟨rfl, hb1⟩
  rw [HS.out]
  go_wp2
  go_ret
  exact ⟨rfl, hb1⟩
end Go.Proofs.Ytclpjmhanhocoaa.Digit
